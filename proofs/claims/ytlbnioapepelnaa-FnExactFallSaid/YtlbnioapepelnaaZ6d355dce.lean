/- Chains: what ChainOk reaches, and ChainOk in the program and in the reference. -/
import Derived.Test.YtlbnioapepelnaaZ39430fd3
import Derived.Test.YtlbnioapepelnaaZ50238854
set_option linter.unusedSimpArgs false
set_option linter.unusedVariables false
namespace Go.Proofs.Ytlbnioapepelnaa.G
open Go.RowKit

theorem slices_IndexFunc_impl_Server_spec (xs : List (List ByteArray × Int)) (fv : GV) (p : List ByteArray × Int → Bool) (hm : xs.length ≤ 1048576) (hf : ∀ a ∈ xs, ∀ (h : Heap) (K : GV → Heap → Option GV), kval fv [.agg (mServer true a)] h K = K (.bool (p a)) h) :
    NN fn.slices_IndexFunc_impl_Server [fzl true 2 (mServer true) xs, fv] = some (.int .i64 (if xs.any p = true then (xs.findIdx p : Int) else -1)) := by
  apply S.slices_IndexFunc_impl_Server.gives (k := xs.length + 1)
  simp [S.slices_IndexFunc_impl_Server.run, -List.any_eq_true]
  refine (loop_find (xs := xs) (p := p) (f := fun r j => S.slices_IndexFunc_impl_Server.l5 _ _ r _ _ _ _ (.int .i64 (j : Int)) _) (A := fun j => some (GV.int .i64 (j : Int))) (B := some (GV.int .i64 (-1))) (fun j r hj => ?_) (fun r => ?_) (xs.length + 1) 0 (by omega) (by omega)).trans ?_
  · have h1 : (j : Int) < xs.length := by omega
    have w := wrap_succ (n := j) (by simp only [maxLen]; omega)
    have hk := hf xs[j] (List.getElem_mem hj)
    cases hp : p xs[j] <;> simp [S.slices_IndexFunc_impl_Server.l5, h1, get_of hj, w, hk, hp]
  · simp [S.slices_IndexFunc_impl_Server.l5]
  · simp only [List.drop_zero, Nat.zero_add]
    by_cases hx : xs.any p = true
    · rw [if_pos hx, if_pos hx]
    · rw [if_neg hx, if_neg hx]
theorem slices_ContainsFunc_impl_Server_spec (xs : List (List ByteArray × Int)) (fv fv' : GV) (p : List ByteArray × Int → Bool) (hm : xs.length ≤ 1048576) (hb : bor 9 [] fv' = some (fv, [])) (hf : ∀ a ∈ xs, ∀ (h : Heap) (K : GV → Heap → Option GV), kval fv [.agg (mServer true a)] h K = K (.bool (p a)) h) :
    NN fn.slices_ContainsFunc_impl_Server [fzl true 2 (mServer true) xs, fv'] = some (.bool (xs.any p)) := by
  apply S.slices_ContainsFunc_impl_Server.gives (k := 0)
  by_cases h : xs.any p = true
  · have : (0 : Int) ≤ (xs.findIdx p : Int) := by omega
    simp only [h]
    simp [S.slices_ContainsFunc_impl_Server.run, hb, slices_IndexFunc_impl_Server_spec xs fv p hm hf, -List.any_eq_true, h, this]
  · simp only [Bool.not_eq_true] at h
    simp only [h]
    simp [S.slices_ContainsFunc_impl_Server.run, hb, slices_IndexFunc_impl_Server_spec xs fv p hm hf, -List.any_eq_false, h]
open Classical in
theorem impl_ChainOk_1_spec (log : List ByteArray) (sure : Int) (hm : log.length ≤ 1048576) : NN fn.impl_ChainOk_1 [.agg [fzl true 1 cs log, .int .i64 sure]] = some (.bool (!decide (ServerP log sure))) := by
  apply S.impl_ChainOk_1.gives (k := 0)
  simp [S.impl_ChainOk_1.run, impl_isServer_spec log sure hm]
theorem kval_ChainOk_1 {R : Type} {caps args : List GV} {h : Heap} {K : GV → Heap → Option R} : kval (.fn fn.impl_ChainOk_1 caps) args h K = (kN NN fn.impl_ChainOk_1 (args ++ caps) h).bind fun v => K v h := by kernel_rfl
theorem kval_areUp_1 {R : Type} {caps args : List GV} {h : Heap} {K : GV → Heap → Option R} : kval (.fn fn.impl_areUp_1 caps) args h K = (kN NN fn.impl_areUp_1 (args ++ caps) h).bind fun v => K v h := by kernel_rfl
def UpP (xs : List Int) : Prop := ∀ j, 0 < j → j < xs.length → xs[j - 1]?.getD 0 ≤ xs[j]?.getD 0
open Classical in
theorem slices_IsSorted_int64_spec (xs : List Int) (hm : xs.length ≤ 1048576) : NN fn.slices_IsSorted_int64 [fzl true 1 ci xs] = some (.bool (decide (UpP xs))) := by
  apply S.slices_IsSorted_int64.gives (k := xs.length + 1)
  have w0 : IntKind.i64.wrap ((xs.length : Int) - 1) = (xs.length : Int) - 1 := by rw [wrap_id] <;> omega
  simp [S.slices_IsSorted_int64.run, w0]
  rw [show (xs.length : Int) - 1 = (xs.length : Int) - 1 - ((0 : Nat) : Int) by omega]
  refine (loop_all (f := fun r j => S.slices_IsSorted_int64.l5 _ _ r _ _ (.int .i64 ((xs.length : Int) - 1 - (j : Int))) _) (A := some (GV.bool true)) (B := some (GV.bool false)) (n := xs.length - 1) (P := fun j => xs[xs.length - 1 - j - 1]?.getD 0 ≤ xs[xs.length - 1 - j]?.getD 0) (fun j r hj => ?_) (fun r => ?_) (xs.length + 1) 0 (by omega) (by omega)).trans ?_
  · obtain ⟨i, hi⟩ : ∃ i, xs.length = j + i + 2 := ⟨xs.length - j - 2, by omega⟩
    have q1 : xs.length - 1 - j - 1 = i := by omega
    have q2 : xs.length - 1 - j = i + 1 := by omega
    have q3 : (xs.length : Int) - 1 - j = (i : Int) + 1 := by omega
    have q4 : (xs.length : Int) - 1 - ((j + 1 : Nat) : Int) = (i : Int) := by omega
    have l1 : i + 1 < xs.length := by omega
    have l2 : i < xs.length := by omega
    have g0 : (0 : Int) < (i : Int) + 1 := by omega
    have g1 : (0 : Int) ≤ (i : Int) + 1 ∧ (i : Int) + 1 < xs.length := by omega
    have g2 : (i : Int) < xs.length := by omega
    have w : IntKind.i64.wrap ((i : Int) + 1 - 1) = (i : Int) := by rw [wrap_id] <;> omega
    have w' : IntKind.i64.wrap (i : Int) = (i : Int) := by rw [wrap_id] <;> omega
    have t1 : ((i : Int) + 1).toNat = i + 1 := by omega
    simp only [q1, q2, q3, q4]
    by_cases hc : xs[i] ≤ xs[i + 1]
    · have hc' : ¬ (xs[i + 1] < xs[i]) := by omega
      refine Eq.trans ?_ (if_pos (by rw [Nat.add_sub_cancel, get_of l1, get_of l2]; exact hc)).symm
      simp only [S.slices_IsSorted_int64.l5]
      simp [g0, g1.1, g1.2, g2, w, w', t1, get_of l1, get_of l2, cmp_Less_int64_spec, hc']
    · have hc' : xs[i + 1] < xs[i] := by omega
      refine Eq.trans ?_ (if_neg (by rw [Nat.add_sub_cancel, get_of l1, get_of l2]; exact hc)).symm
      simp only [S.slices_IsSorted_int64.l5]
      simp [g0, g1.1, g1.2, g2, w, w', t1, get_of l1, get_of l2, cmp_Less_int64_spec, hc']
  · obtain ⟨z, hz, hz'⟩ : ∃ z : Int, (xs.length : Int) - 1 - ((xs.length - 1 : Nat) : Int) = z ∧ ¬ (0 < z) := ⟨_, rfl, by omega⟩
    rw [hz]
    simp only [S.slices_IsSorted_int64.l5]
    simp [hz']
  · have key : (∀ i, 0 ≤ i → i < xs.length - 1 → xs[xs.length - 1 - i - 1]?.getD 0 ≤ xs[xs.length - 1 - i]?.getD 0) ↔ UpP xs := by
      unfold UpP
      constructor
      · intro h j h0 h1
        have := h (xs.length - 1 - j) (by omega) (by omega)
        rwa [show xs.length - 1 - (xs.length - 1 - j) = j by omega] at this
      · intro h i _ hi
        exact h (xs.length - 1 - i) (by omega) (by omega)
    by_cases hx : UpP xs
    · rw [if_pos (key.2 hx), decide_eq_true hx]
    · rw [if_neg (fun h => hx (key.1 h)), decide_eq_false hx]
theorem impl_areUp_1_spec (n a b : Int) : NN fn.impl_areUp_1 [.int .i64 n, .fp true [.int .i64 a], .fp true [.int .i64 b]] = some (.bool (!decide (a ≤ n ∧ n ≤ b))) := by
  apply S.impl_areUp_1.gives (k := 0)
  have e1 : ∀ (h : Heap) (x : GV), kload1 h (.fp true [x]) = some x := fun h x => rfl
  simp [S.impl_areUp_1.run, e1, impl_in_spec]
open Classical in
theorem impl_areUp_spec (xs : List Int) (a b : Int) (hm : xs.length ≤ 1048576) : NN fn.impl_areUp [fzl true 1 ci xs, .int .i64 a, .int .i64 b] = some (.bool (decide (UpP xs ∧ ∀ n ∈ xs, a ≤ n ∧ n ≤ b))) := by
  apply S.impl_areUp.gives (k := 0)
  have e2 : bor 9 [[.int .i64 a], [.int .i64 b]] (.fn fn.impl_areUp_1 [.ptr 0 0 1, .ptr 1 0 1]) = some (.fn fn.impl_areUp_1 [.fp true [.int .i64 a], .fp true [.int .i64 b]], [0, 1]) := by rfl
  have b1 : ∀ (d : Nat) (h : Heap) (x : Int), bor (d + 2) h (.fp true [.int .i64 x]) = some (.fp true [.int .i64 x], []) := fun d h x => rfl
  have hs := slices_ContainsFunc_int64_spec xs (.fn fn.impl_areUp_1 [.fp true [.int .i64 a], .fp true [.int .i64 b]]) (.fn fn.impl_areUp_1 [.fp true [.int .i64 a], .fp true [.int .i64 b]]) (fun n => !decide (a ≤ n ∧ n ≤ b)) hm rfl (fun n _ h K => by rw [kval_areUp_1]; simp [b1, impl_areUp_1_spec])
  have hb : ∀ (x : Int) (h : Heap) (K : GV → Heap → Option GV), kbox (.int .i64 x) h K = K (.ptr h.length 0 1) (h ++ [[.int .i64 x]]) := fun _ _ _ => rfl
  by_cases h1 : UpP xs
  · cases h2 : (xs.any fun n => !decide (a ≤ n ∧ n ≤ b)) with
    | true =>
      rw [h2] at hs
      rw [decide_eq_false (fun h => by
        obtain ⟨n, hn, hp⟩ := List.any_eq_true.1 h2
        have := h.2 n hn
        simp [this] at hp)]
      simp [S.impl_areUp.run, slices_IsSorted_int64_spec xs hm, e2, hb, hs, h1]
    | false =>
      rw [h2] at hs
      rw [decide_eq_true ⟨h1, fun n hn => by
        have := List.any_eq_false.1 h2 n hn
        simpa using this⟩]
      simp [S.impl_areUp.run, slices_IsSorted_int64_spec xs hm, e2, hb, hs, h1]
  · rw [decide_eq_false (fun h => h1 h.1)]
    simp [S.impl_areUp.run, slices_IsSorted_int64_spec xs hm, hb, h1]
theorem slices_Grow_string_spec (n : Nat) (hn : n ≤ 4194304) (h : Heap) : HH fn.slices_Grow_string [.nils, .int .i64 n] h = if n = 0 then some (.nils, h) else some (.sl h.length 0 0 n 1, h ++ [zeros [.str { data := #[] }] n]) := by
  have w1 : IntKind.i64.wrap (0 : Int) = 0 := rfl
  have w2 : IntKind.i64.wrap (n : Int) = n := by rw [wrap_id] <;> omega
  have g0 : ¬ ((n : Int) < 0) := by omega
  by_cases h0 : n = 0
  · subst h0
    rw [if_pos rfl]
    apply S.slices_Grow_string.gives (k := 0)
    simp [S.slices_Grow_string.run, w1]
  · rw [if_neg h0]
    apply S.slices_Grow_string.gives (k := 0)
    have g1 : (0 : Int) < n := by omega
    have g2 : 0 < n := by omega
    have e1 : ksl 1 .nils none (some (.int .i64 0)) none = some .nils := rfl
    have e2 : kapz [.str { data := #[] }] 1 16 .nils (.int .i64 n) h = some (.sl h.length 0 n n 1, h ++ [zeros [.str { data := #[] }] n]) := by
      have a1 : n * 16 ≤ roomMax := by simp only [roomMax]; omega
      have a2 : (n : Int) ≤ maxLen := by simp only [maxLen]; omega
      simp [kapz, a1, a2, h0]
    have e3 : ksl 1 (.sl h.length 0 n n 1) none (some (.int .i64 0)) none = some (.sl h.length 0 0 n 1) := by
      simp [ksl, kslice, gslice, gopt, gint]
    simp [S.slices_Grow_string.run, w1, w2, g0, g1, g2, e1, e2, e3]
theorem flat_take_len {α : Type} (xss : List (List α)) (j : Nat) (hj : j < xss.length) : (xss.take (j + 1)).flatten = (xss.take j).flatten ++ xss[j] := by
  rw [List.take_add_one, List.getElem?_eq_getElem hj, List.flatten_append]
  simp
theorem flat_take_le {α : Type} (xss : List (List α)) (j : Nat) : (xss.take j).flatten.length ≤ xss.flatten.length := by
  have e : xss.flatten = (xss.take j).flatten ++ (xss.drop j).flatten := by rw [← List.flatten_append, List.take_append_drop]
  rw [e, List.length_append]
  omega
theorem slices_Concat_string_spec (xss : List (List ByteArray)) (hm : xss.length ≤ 1048576) (hn : xss.flatten.length ≤ 4194304) : NN fn.slices_Concat_string [fzl true 1 (mStringS true) xss] = some (fzl false 1 cs xss.flatten) := by
  apply S.slices_Concat_string.gives (k := xss.length + 1)
  have w00 : IntKind.i64.wrap (0 : Int) = 0 := rfl
  simp [S.slices_Concat_string.run]
  refine (loop_to (f := fun r j => S.slices_Concat_string.l21 _ _ r _ _ (.int .i64 (((xss.take j).flatten.length : Nat) : Int)) _ _ (.int .i64 (j : Int)) _) (A := some (fzl false 1 cs xss.flatten)) (n := xss.length) (fun j r hj => ?_) (fun r => ?_) (xss.length + 1) 0 (by omega) (by omega))
  · have g1 : (j : Int) < xss.length := by omega
    have w := wrap_succ (n := j) (by simp only [maxLen]; omega)
    have l1 := flat_take_le xss (j + 1)
    have l2 := flat_take_len xss j hj
    have l3 : ((xss.take (j + 1)).flatten.length : Int) = ((xss.take j).flatten.length : Int) + (xss[j].length : Int) := by rw [l2, List.length_append]; omega
    have w2 : IntKind.i64.wrap (((xss.take j).flatten.length : Int) + (xss[j].length : Int)) = ((xss.take (j + 1)).flatten.length : Int) := by rw [wrap_id] <;> omega
    have g2 : ¬ (((xss.take (j + 1)).flatten.length : Int) < 0) := by omega
    simp only [S.slices_Concat_string.l21]
    simp [g1, get_of hj, w, w2, g2, -List.length_flatten, -List.length_take]
  · simp only [S.slices_Concat_string.l21]
    have g0 : ¬ ((xss.length : Int) < xss.length) := by omega
    have sp := slices_Grow_string_spec xss.flatten.length hn []
    by_cases h0 : xss.flatten.length = 0
    · rw [if_pos h0] at sp
      have hz : xss.flatten = [] := List.eq_nil_of_length_eq_zero h0
      simp [g0, sp, -List.length_flatten]
      refine (loop_to (f := fun r j => S.slices_Concat_string.l8 _ _ r _ .nils _ _ (.int .i64 (j : Int)) []) (A := some (fzl false 1 cs xss.flatten)) (n := xss.length) (fun j r hj => ?_) (fun r => ?_) (xss.length + 1) 0 (by omega) (by omega))
      · have g1 : (j : Int) < xss.length := by omega
        have w := wrap_succ (n := j) (by simp only [maxLen]; omega)
        have e0 : xss[j] = [] := List.flatten_eq_nil_iff.1 hz _ (List.getElem_mem hj)
        have ka := kapp_nils (mk := cs) (es := 1) (b := 16) (z := [.str { data := #[] }]) (t := true) (xs := ([] : List ByteArray)) (h := []) (fun _ => rfl) (fun _ => rfl) rfl (by omega) (by simp)
        simp only [fzl_nil] at ka
        simp only [S.slices_Concat_string.l8]
        simp [g1, get_of hj, w, e0, ka]
      · simp only [S.slices_Concat_string.l8]
        simp [g0, hz, -List.flatten_eq_nil_iff]
        exact finN_of frz_nils
    · rw [if_neg h0] at sp
      simp [g0, sp, -List.length_flatten]
      refine (loop_to (f := fun r j => S.slices_Concat_string.l8 _ _ r _ (.sl 0 0 (xss.take j).flatten.length xss.flatten.length 1) _ _ (.int .i64 (j : Int)) [(xss.take j).flatten.flatMap cs ++ zeros [.str { data := #[] }] (xss.flatten.length - (xss.take j).flatten.length)]) (A := some (fzl false 1 cs xss.flatten)) (n := xss.length) (fun j r hj => ?_) (fun r => ?_) (xss.length + 1) 0 (by omega) (by omega))
      · have g1 : (j : Int) < xss.length := by omega
        have w := wrap_succ (n := j) (by simp only [maxLen]; omega)
        have l1 := flat_take_le xss (j + 1)
        have l2 := flat_take_len xss j hj
        have l3 : (xss.take j).flatten.length + xss[j].length ≤ xss.flatten.length := by rw [l2, List.length_append] at l1; omega
        have ka := kapp_fill (mk := cs) (es := 1) (b := 16) (z := [.str { data := #[] }]) (t := true) (i := 0) (n := xss.flatten.length) (ys := (xss.take j).flatten) (xs := xss[j]) (h := [(xss.take j).flatten.flatMap cs ++ zeros [.str { data := #[] }] (xss.flatten.length - (xss.take j).flatten.length)]) (fun _ => rfl) (fun _ => rfl) rfl (by omega) hn l3 rfl
        rw [← l2] at ka
        simp only [S.slices_Concat_string.l8]
        simp [g1, get_of hj, w, ka, -List.length_flatten, -List.length_take]
      · simp only [S.slices_Concat_string.l8]
        simp [g0, -List.length_flatten, zeros]
        exact finN_of (frz_sl (mk := cs) (mk' := cs) (rest := []) (fun _ => rfl) (by simp) (by rw [List.append_nil]; exact len_flat (mk := cs) (es := 1) (fun _ => rfl) xss.flatten) (Nat.le_refl _) (fun a _ => .cs))

open Classical in
theorem loop_allS {R T : Type} {P : Nat → Prop} {n : Nat} {f : Nat → Nat → T → R} {A B : R} (h1 : ∀ j r s, j < n → if P j then ∃ s', f (r + 1) j s = f r (j + 1) s' else f (r + 1) j s = B) (h2 : ∀ r s, f (r + 1) n s = A) :
    ∀ r j s, n - j < r → j ≤ n → f r j s = if (∀ i, j ≤ i → i < n → P i) then A else B := by
  intro r
  induction r with
  | zero => intro j s h; omega
  | succ r ih =>
    intro j s hr hj
    rcases Nat.lt_or_ge j n with h | h
    · have h3 := h1 j r s h
      by_cases hp : P j
      · rw [if_pos hp] at h3
        obtain ⟨s', h3⟩ := h3
        rw [h3, ih (j + 1) s' (by omega) (by omega)]
        have : (∀ i, j + 1 ≤ i → i < n → P i) ↔ (∀ i, j ≤ i → i < n → P i) := by
          constructor
          · intro h i hi hin
            rcases Nat.eq_or_lt_of_le hi with rfl | hi
            · exact hp
            · exact h i hi hin
          · intro h i hi; exact h i (by omega)
        simp only [this]
      · rw [if_neg hp] at h3
        rw [h3, if_neg (fun h' => hp (h' j (Nat.le_refl j) h))]
    · have : j = n := by omega
      subst this
      rw [h2 r, if_pos (fun i h1 h2 => by omega)]
abbrev CServers := List (List ByteArray × Int)
def StepP (xs : CServers) (ds : List (List ByteArray)) (us : List (List Int)) (i : Nat) : Prop :=
  (xs[i]?.getD ([], 0)).2 ≤ (xs[i + 1]?.getD ([], 0)).2 ∧ (xs[i]?.getD ([], 0)).1 = (xs[i + 1]?.getD ([], 0)).1 ++ ds[i]?.getD [] ∧
    (UpP (us[i]?.getD []) ∧ ∀ n ∈ us[i]?.getD [], (xs[i]?.getD ([], 0)).2 ≤ n ∧ n ≤ (xs[i + 1]?.getD ([], 0)).2)
def ChainP (xs : CServers) (ds : List (List ByteArray)) (us : List (List Int)) : Prop :=
  (1 ≤ xs.length ∧ xs.length ≤ 5) ∧ ds.length + 1 = xs.length ∧ us.length + 1 = xs.length ∧ (∀ s ∈ xs, ServerP s.1 s.2) ∧
    (∀ i, 0 ≤ i → i < xs.length - 1 → StepP xs ds us i) ∧ (xs[xs.length - 1]?.getD ([], 0)).2 = (xs[xs.length - 1]?.getD ([], 0)).1.length

theorem bor_two {d : Nat} {t : Heap} {a b : List ByteArray} {c c' c'' : List GV} : bor (d + 3) (c :: (t ++ [c', c'', [fzl true 1 cs a, fzl true 1 cs b]])) (.sl (t.length + 3) 0 2 2 1) = some (fzl true 1 (mStringS true) [a, b], [t.length + 3]) := by
  have e : (c :: (t ++ [c', c'', [fzl true 1 cs a, fzl true 1 cs b]]))[t.length + 3]? = some [fzl true 1 cs a, fzl true 1 cs b] := by
    rw [List.getElem?_cons_succ, get_app]; rfl
  unfold bor
  simp [cellsAt_if, e]
  rfl
abbrev ChainCells (xs : CServers) (ds : List (List ByteArray)) (us : List (List Int)) : List GV := [fzl true 2 (mServer true) xs, fzl true 1 (mStringS true) ds, fzl true 1 (mInt64S true) us]
open Classical in
theorem impl_ChainOk_step (xs : CServers) (ds : List (List ByteArray)) (us : List (List Int)) (hm : okChain (xs, ds, us)) (h1 : 1 ≤ xs.length ∧ xs.length ≤ 5) (h2 : ds.length + 1 = xs.length) (h3 : us.length + 1 = xs.length) (h4' : ∀ s ∈ xs, ServerP s.1 s.2)
    (j r : Nat) (t : Heap) (hj : j < xs.length - 1) :
    if StepP xs ds us j then ∃ t', ∀ {R : Type} (k : Nat) (G : GX → GV → GV → GV → Heap → Option R), S.impl_ChainOk.l7 k G (r + 1) (.ptr 0 0 3) (.bool false) (.int .i64 (xs.length : Int)) (.int .i64 ((xs.length : Int) - 1)) (.int .i64 (j : Int)) (ChainCells xs ds us :: t) = S.impl_ChainOk.l7 k G r (.ptr 0 0 3) (.bool false) (.int .i64 (xs.length : Int)) (.int .i64 ((xs.length : Int) - 1)) (.int .i64 ((j + 1 : Nat) : Int)) (ChainCells xs ds us :: t')
    else ∃ t', ∀ {R : Type} (k : Nat) (G : GX → GV → GV → GV → Heap → Option R), S.impl_ChainOk.l7 k G (r + 1) (.ptr 0 0 3) (.bool false) (.int .i64 (xs.length : Int)) (.int .i64 ((xs.length : Int) - 1)) (.int .i64 (j : Int)) (ChainCells xs ds us :: t) = G .ret (.ptr 0 0 3) (.bool false) (.int .i64 (xs.length : Int)) (ChainCells xs ds us :: t') := by
  obtain ⟨⟨hx, hx'⟩, ⟨hd, hd'⟩, ⟨hu, hu'⟩⟩ := hm
  simp only at hx hx' hd hd' hu hu'
  have g1 : (j : Int) < (xs.length : Int) - 1 := by omega
  have j0 : j < xs.length := by omega
  have j1 : j + 1 < xs.length := by omega
  have jd : j < ds.length := by omega
  have ju : j < us.length := by omega
  have w2 := wrap_succ (n := j) (by simp only [maxLen]; omega)
  have g2 : (j : Int) < (xs.length : Int) := by omega
  have g3 : (0 : Int) ≤ (j : Int) + 1 ∧ (j : Int) + 1 < (xs.length : Int) := by omega
  have g4 : (j : Int) < (ds.length : Int) := by omega
  have g5 : (j : Int) < (us.length : Int) := by omega
  have t1 : ((j : Int) + 1).toNat = j + 1 := by omega
  have hP : StepP xs ds us j ↔ xs[j].2 ≤ xs[j + 1].2 ∧ xs[j].1 = xs[j + 1].1 ++ ds[j] ∧ (UpP us[j] ∧ ∀ n ∈ us[j], xs[j].2 ≤ n ∧ n ≤ xs[j + 1].2) := by
    unfold StepP
    rw [get_of j0, get_of j1, get_of jd, get_of ju]
    exact Iff.rfl
  have b0 : xs[j].1.length ≤ 60 := (h4' _ (List.getElem_mem j0)).1
  have b1 : xs[j + 1].1.length ≤ 60 := (h4' _ (List.getElem_mem j1)).1
  have bd : ds[j].length ≤ 1048576 := (hd' _ (List.getElem_mem jd)).1
  have bu : us[j].length ≤ 1048576 := (hu' _ (List.getElem_mem ju))
  have sc := slices_Concat_string_spec [xs[j + 1].1, ds[j]] (by simp) (by simp; omega)
  have se := slices_Equal_string_spec xs[j].1 (xs[j + 1].1 ++ ds[j]) (by omega)
  have su := impl_areUp_spec us[j] xs[j].2 xs[j + 1].2 bu
  simp only [List.flatten_cons, List.flatten_nil, List.append_nil] at sc
  by_cases c1 : xs[j].2 ≤ xs[j + 1].2
  case neg =>
    rw [if_neg (fun h => c1 (hP.1 h).1)]
    have c1' : xs[j + 1].2 < xs[j].2 := by omega
    refine ⟨t ++ [[fzl true 1 cs xs[j].1, .int .i64 xs[j].2], [fzl true 1 cs xs[j + 1].1, .int .i64 xs[j + 1].2]], fun k G => ?_⟩
    simp only [S.impl_ChainOk.l7]
    simp [g1, g2, g3.1, g3.2, g4, g5, t1, w2, get_of j0, get_of j1, get_of jd, get_of ju, get_app, get_app0, set_app, set_app0, c1', chk, meets, gfill, zeros, kbs, bor_two, sc, se, su]
  have c1' : ¬ (xs[j + 1].2 < xs[j].2) := by omega
  by_cases c2 : xs[j].1 = xs[j + 1].1 ++ ds[j]
  case neg =>
    rw [if_neg (fun h => c2 (hP.1 h).2.1)]
    rw [decide_eq_false c2] at se
    refine ⟨t ++ [[fzl true 1 cs xs[j].1, .int .i64 xs[j].2], [fzl true 1 cs xs[j + 1].1, .int .i64 xs[j + 1].2], [fzl true 1 cs xs[j + 1].1, fzl true 1 cs ds[j]]], fun k G => ?_⟩
    simp only [S.impl_ChainOk.l7]
    simp [g1, g2, g3.1, g3.2, g4, g5, t1, w2, get_of j0, get_of j1, get_of jd, get_of ju, get_app, get_app0, set_app, set_app0, c1', chk, meets, gfill, zeros, kbs, bor_two, sc, se, su]
  rw [decide_eq_true c2] at se
  by_cases c3 : UpP us[j] ∧ ∀ n ∈ us[j], xs[j].2 ≤ n ∧ n ≤ xs[j + 1].2
  case neg =>
    rw [if_neg (fun h => c3 (hP.1 h).2.2)]
    rw [decide_eq_false c3] at su
    refine ⟨t ++ [[fzl true 1 cs xs[j].1, .int .i64 xs[j].2], [fzl true 1 cs xs[j + 1].1, .int .i64 xs[j + 1].2], [fzl true 1 cs xs[j + 1].1, fzl true 1 cs ds[j]]], fun k G => ?_⟩
    simp only [S.impl_ChainOk.l7]
    simp [g1, g2, g3.1, g3.2, g4, g5, t1, w2, get_of j0, get_of j1, get_of jd, get_of ju, get_app, get_app0, set_app, set_app0, c1', chk, meets, gfill, zeros, kbs, bor_two, sc, se, su]
  rw [decide_eq_true c3] at su
  rw [if_pos (hP.2 ⟨c1, c2, c3⟩)]
  refine ⟨t ++ [[fzl true 1 cs xs[j].1, .int .i64 xs[j].2], [fzl true 1 cs xs[j + 1].1, .int .i64 xs[j + 1].2], [fzl true 1 cs xs[j + 1].1, fzl true 1 cs ds[j]]], fun k G => ?_⟩
  simp only [S.impl_ChainOk.l7]
  simp [g1, g2, g3.1, g3.2, g4, g5, t1, w2, get_of j0, get_of j1, get_of jd, get_of ju, get_app, get_app0, set_app, set_app0, c1', chk, meets, gfill, zeros, kbs, bor_two, sc, se, su]
open Classical in
theorem impl_ChainOk_spec (xs : CServers) (ds : List (List ByteArray)) (us : List (List Int)) (hm : okChain (xs, ds, us)) :
    NN fn.impl_ChainOk [.agg [fzl true 2 (mServer true) xs, fzl true 1 (mStringS true) ds, fzl true 1 (mInt64S true) us]] = some (.bool (decide (ChainP xs ds us))) := by
  have hm' := hm
  obtain ⟨⟨hx, hx'⟩, ⟨hd, hd'⟩, ⟨hu, hu'⟩⟩ := hm'
  simp only at hx hx' hd hd' hu hu'
  apply S.impl_ChainOk.gives (k := xs.length + 1)
  have hc := slices_ContainsFunc_impl_Server_spec xs (.fn fn.impl_ChainOk_1 []) (.fn fn.impl_ChainOk_1 []) (fun a => !decide (ServerP a.1 a.2)) hx rfl (fun a ha h K => by
    rw [kval_ChainOk_1]
    simp [impl_ChainOk_1_spec a.1 a.2 (hx' a ha).1])
  have w1 : IntKind.i64.wrap ((xs.length : Int) - 1) = (xs.length : Int) - 1 := by rw [wrap_id] <;> omega
  by_cases h1 : 1 ≤ xs.length ∧ xs.length ≤ 5
  case neg =>
    rw [decide_eq_false (fun h => h1 h.1)]
    have i1 := impl_in_spec xs.length 1 5
    rw [decide_eq_false (by omega)] at i1
    simp [S.impl_ChainOk.run, i1]
  have i1 := impl_in_spec xs.length 1 5
  rw [decide_eq_true (by omega)] at i1
  by_cases h2 : ds.length + 1 = xs.length
  case neg =>
    rw [decide_eq_false (fun h => h2 h.2.1)]
    have : ¬ ((ds.length : Int) = (xs.length : Int) - 1) := by omega
    simp [S.impl_ChainOk.run, i1, w1, this]
  have h2' : (ds.length : Int) = (xs.length : Int) - 1 := by omega
  by_cases h3 : us.length + 1 = xs.length
  case neg =>
    rw [decide_eq_false (fun h => h3 h.2.2.1)]
    have : ¬ ((us.length : Int) = (xs.length : Int) - 1) := by omega
    simp [S.impl_ChainOk.run, i1, w1, h2', this]
  have h3' : (us.length : Int) = (xs.length : Int) - 1 := by omega
  cases h4 : (xs.any fun a => !decide (ServerP a.1 a.2)) with
  | true =>
    rw [h4] at hc
    rw [decide_eq_false (fun h => by
      obtain ⟨s, hs, hp⟩ := List.any_eq_true.1 h4
      have := h.2.2.2.1 s hs
      simp [this] at hp)]
    simp [S.impl_ChainOk.run, i1, w1, h2', h3', hc]
  | false =>
    rw [h4] at hc
    have h4' : ∀ s ∈ xs, ServerP s.1 s.2 := fun s hs => by
      have := List.any_eq_false.1 h4 s hs
      simpa using this
    simp [S.impl_ChainOk.run, i1, w1, h2', h3', hc]
    refine (loop_allS (f := fun r j (t : Heap) => S.impl_ChainOk.l7 _ _ r (.ptr 0 0 3) (.bool false) (.int .i64 (xs.length : Int)) (.int .i64 ((xs.length : Int) - 1)) (.int .i64 (j : Int)) ([fzl true 2 (mServer true) xs, fzl true 1 (mStringS true) ds, fzl true 1 (mInt64S true) us] :: t)) (A := some (GV.bool (decide ((xs[xs.length - 1]?.getD ([], 0)).2 = (xs[xs.length - 1]?.getD ([], 0)).1.length)))) (B := some (GV.bool false)) (n := xs.length - 1) (P := fun j => StepP xs ds us j) (fun j r t hj => ?_) (fun r t => ?_) (xs.length + 1) 0 [] (by omega) (by omega)).trans ?_
    · have hs := impl_ChainOk_step xs ds us hm h1 h2 h3 h4' j r t hj
      by_cases hp : StepP xs ds us j
      · rw [if_pos hp] at hs ⊢
        obtain ⟨t', hs⟩ := hs
        exact ⟨t', hs _ _⟩
      · rw [if_neg hp] at hs ⊢
        obtain ⟨t', hs⟩ := hs
        rw [hs]
        simp
    · have g1 : ¬ (((xs.length - 1 : Nat) : Int) < (xs.length : Int) - 1) := by omega
      obtain ⟨l, hl⟩ : ∃ l, xs.length = l + 1 := ⟨xs.length - 1, by omega⟩
      have q1 : (xs.length : Int) - 1 = (l : Int) := by omega
      have q2 : xs.length - 1 = l := by omega
      have g2 : (l : Int) < (xs.length : Int) := by omega
      have j0 : l < xs.length := by omega
      have w2 : IntKind.i64.wrap (l : Int) = (l : Int) := by rw [wrap_id] <;> omega
      rw [q1] at g1 ⊢
      rw [q2] at g1 ⊢
      simp only [S.impl_ChainOk.l7]
      simp [g1, g2, q1, w2, get_of j0, get_app, get_app0, set_app, set_app0]
    · have key : ChainP xs ds us ↔ (∀ i, 0 ≤ i → i < xs.length - 1 → StepP xs ds us i) ∧ (xs[xs.length - 1]?.getD ([], 0)).2 = (xs[xs.length - 1]?.getD ([], 0)).1.length := by
        unfold ChainP
        exact ⟨fun h => h.2.2.2.2, fun h => ⟨h1, h2, h3, h4', h⟩⟩
      by_cases hs : ∀ i, 0 ≤ i → i < xs.length - 1 → StepP xs ds us i
      · rw [if_pos hs]
        congr 2
        rw [Bool.eq_iff_iff, decide_eq_true_eq, decide_eq_true_eq, key]
        exact ⟨fun h => ⟨hs, h⟩, fun h => h.2⟩
      · rw [if_neg hs, decide_eq_false (fun h => hs (key.1 h).1)]

theorem bor_sl_cs {d : Nat} {h : Heap} {i n : Nat} {xs : List ByteArray} {cells : List GV} (hh : h[i]? = some cells) (e : cells = xs.flatMap cs) (hn : n = xs.length) : bor (d + 2) h (.sl i 0 n n 1) = some (fzl true 1 cs xs, i :: (xs.map fun _ => ([] : List Nat)).flatten) := by
  subst e; subst hn
  have hl : (xs.flatMap cs).length = xs.length * 1 := len_flat (mk := cs) (es := 1) (fun _ => rfl) xs
  have hm : ∀ (ys : List ByteArray), (ys.flatMap cs).mapM (bor (d + 1) h) = some (ys.map fun a => (GV.str a, ([] : List Nat))) := by
    intro ys
    induction ys with
    | nil => rfl
    | cons y ys ih => rw [List.flatMap_cons, cs, List.singleton_append, List.mapM_cons, ih]; simp
  unfold bor
  simp only [cellsAt_if, hh, Nat.zero_add, hl, if_true, Option.bind_some, List.drop_zero, Option.bind_eq_bind]
  rw [List.take_of_length_le (by omega), hm]
  simp only [Option.bind_some, Nat.le_refl, if_true]
  cases xs with
  | nil => rfl
  | cons x xs =>
    simp only [List.length_cons, fzl, List.map_map, Option.some.injEq, Prod.mk.injEq, GV.fz.injEq, true_and]
    refine ⟨?_, ?_⟩
    · have : ∀ (ys : List ByteArray), ys.flatMap cs = ys.map GV.str := by
        intro ys
        induction ys with
        | nil => rfl
        | cons y ys ih => rw [List.flatMap_cons, ih]; rfl
      rw [this]; rfl
    · rfl
@[simp] theorem kborr_fzl {h : Heap} {xs : List ByteArray} : kborr h (fzl true 1 cs xs) = [] := by simp [kborr]
theorem spec_ChainOk_n32 (xs : CServers) (ds : List (List ByteArray)) (us : List (List Int)) (s b : List ByteArray × Int) (d : List ByteArray) (i : Nat) (t : Heap) (v3 : GV) (hi : i < ds.length) (hd : ds[i]? = some d) (l1 : s.1.length ≤ 1048576) (l2 : b.1.length ≤ 1048576) (l3 : d.length ≤ 1048576) :
    ∃ t', ∀ {R : Type} (k : Nat) (G : GX → GV → GV → GV → GV → GV → GV → GV → Heap → Option R),
      S.spec_ChainOk.n32 k G (.ptr 0 0 3) (.bool false) v3 (.int .i64 (i : Int)) (.ptr (t.length + 1) 0 2) (.ptr (t.length + 2) 0 2) (ChainCells xs ds us :: (t ++ [[fzl true 1 cs s.1, .int .i64 s.2], [fzl true 1 cs b.1, .int .i64 b.2]])) =
      G .nrm (.ptr 0 0 3) (.bool false) v3 (.int .i64 (i : Int)) (.ptr (t.length + 1) 0 2) (.ptr (t.length + 2) 0 2) (.bool (decide (b.2 < s.2) || !decide (s.1 = b.1 ++ d))) (ChainCells xs ds us :: (t ++ [[fzl true 1 cs s.1, .int .i64 s.2], [fzl true 1 cs b.1, .int .i64 b.2]] ++ t')) := by
  have g1 : (i : Int) < (ds.length : Int) := by omega
  by_cases c1 : b.2 < s.2
  · refine ⟨[], fun k G => ?_⟩
    simp [get_app, get_app0, c1, chk]
  have hO := fun n => spec_l17Texts_spec b.1 (by omega) n
  have hs := spec_l17Same_spec s.1 (b.1 ++ d) (by omega)
  by_cases e1 : b.1.length = 0
  · have hb : b.1 = [] := List.eq_nil_of_length_eq_zero e1
    simp only [e1, if_true] at hO
    have ka := fun h => kapp_emp (mk := cs) (es := 1) (b := 16) (z := [.str { data := #[] }]) (t := true) (xs := d) (h := h) (fun _ => rfl) (fun _ => rfl) rfl (by omega) (by omega)
    by_cases e2 : d.length = 0
    · have hd' : d = [] := List.eq_nil_of_length_eq_zero e2
      refine ⟨[], fun k G => ?_⟩
      simp only [e2, if_true] at ka
      simp only [hb, hd', List.append_nil, fzl_nil] at hs hO ka
      simp [get_app, get_app0, c1, chk, meets, hb, hO, g1, hd, hd', hs, ka]
    · refine ⟨[d.flatMap cs], fun k G => ?_⟩
      simp only [e2, if_false] at ka
      simp only [hb, List.nil_append, fzl_nil] at hs hO
      simp [get_app, get_app0, c1, chk, meets, touches, hb, hO, g1, hd, hs, ka]
      rw [bor_sl_cs (d := 7) (xs := d) (by rw [List.getElem?_cons_succ, get_app]; rfl) rfl rfl]
      have q : ¬ (t.length + 2 ≤ t.length) := by omega
      simp [hs, q]
  · simp only [e1, if_false] at hO
    have ka := fun (h : Heap) (i : Nat) (hh : h[i]? = some (b.1.flatMap cs)) => kapp_sl (n := 0) (mk := cs) (es := 1) (b := 16) (z := [.str { data := #[] }]) (t := true) (ys := b.1) (xs := d) (h := h) (i := i) (fun _ => rfl) (fun _ => rfl) rfl (by omega) (by omega) (by omega) hh
    refine ⟨[(b.1 ++ d).flatMap cs], fun k G => ?_⟩
    simp [get_app, get_app0, c1, chk, meets, touches, hO, g1, hd]
    rw [ka _ _ (by rw [List.getElem?_cons_succ, get_app]; rfl)]
    simp [get_app, get_app0, c1, chk, meets, touches, hO, g1, hd, set_app]
    rw [bor_sl_cs (d := 7) (xs := b.1 ++ d) (n := b.1.length + d.length) (cells := b.1.flatMap cs ++ d.flatMap cs) (by rw [List.getElem?_cons_succ, get_app]; rfl) (by rw [List.flatMap_append]) (by rw [List.length_append])]
    have q : ¬ (t.length + 3 ≤ t.length) := by omega
    simp [hs, q]
open Classical in
theorem spec_ChainOk_l37 (log : List ByteArray) (sure : Int) (hm : log.length ≤ 1048576) (b : Nat) (h : Heap) (hh : h[b]? = some [fzl true 1 cs log, .int .i64 sure]) (v1 v2 v3 v4 : GV) (r : Nat) (hr : log.length < r) :
    ∀ {R : Type} (k : Nat) (G : GX → GV → GV → GV → GV → GV → Heap → Option R), S.spec_ChainOk.l37 k G r v1 v2 v3 v4 (.ptr b 0 2) (.int .i64 0) h =
      if (∀ i, 0 ≤ i → i < log.length → (log[i]?.getD default).size ≤ 200) then G (.ext 2) v1 v2 v3 v4 (.ptr b 0 2) h else G .ret v1 (.bool false) v3 v4 (.ptr b 0 2) h := by
  intro R k G
  refine (loop_all (f := fun r j => S.spec_ChainOk.l37 k G r v1 v2 v3 v4 (.ptr b 0 2) (.int .i64 (j : Int)) h) (n := log.length) (P := fun j => (log[j]?.getD default).size ≤ 200) (A := G (.ext 2) v1 v2 v3 v4 (.ptr b 0 2) h) (B := G .ret v1 (.bool false) v3 v4 (.ptr b 0 2) h) (fun j r hj => ?_) (fun r => ?_) r 0 (by omega) (by omega))
  · have g1 : (j : Int) < log.length := by omega
    have w := wrap_succ (n := j) (by simp only [maxLen]; omega)
    rw [get_of hj]
    by_cases hp : log[j].size ≤ 200
    · have : ¬ ((200 : Int) < (log[j].size : Int)) := by omega
      refine Eq.trans ?_ (if_pos hp).symm
      simp only [S.spec_ChainOk.l37]
      simp [hh, g1, w, get_of hj, this]
    · have : (200 : Int) < (log[j].size : Int) := by omega
      refine Eq.trans ?_ (if_neg hp).symm
      simp only [S.spec_ChainOk.l37]
      simp [hh, g1, w, get_of hj, this]
  · simp only [S.spec_ChainOk.l37]
    simp [hh]
def prevUp (a : Int) (us : List Int) (i : Nat) : Int := (a :: us)[i]?.getD 0
open Classical in
theorem spec_ChainOk_l21 (xs : CServers) (ds : List (List ByteArray)) (us : List (List Int)) (u : List Int) (a : Int) (lb : List ByteArray) (sb : Int) (i : Nat) (hi : i < us.length) (hu : us[i]? = some u) (hm : u.length ≤ 1048576) (b : Nat) (h : Heap) (h0 : h[0]? = some (ChainCells xs ds us)) (hh : h[b]? = some [fzl true 1 cs lb, .int .i64 sb]) (v3 : GV) (r : Nat) (hr : u.length < r) :
    ∀ {R : Type} (k : Nat) (G : GX → GV → GV → GV → GV → Heap → Option R), S.spec_ChainOk.l21 k G r (.ptr 0 0 3) (.bool false) v3 (.int .i64 (i : Int)) (.ptr b 0 2) (.int .i64 a) (.int .i64 0) h =
      if (∀ i, 0 ≤ i → i < u.length → prevUp a u i ≤ u[i]?.getD 0 ∧ u[i]?.getD 0 ≤ sb) then G (.ext 4) (.ptr 0 0 3) (.bool false) v3 (.int .i64 (i : Int)) h else G .ret (.ptr 0 0 3) (.bool false) v3 (.int .i64 (i : Int)) h := by
  intro R k G
  refine (loop_all (f := fun r j => S.spec_ChainOk.l21 k G r (.ptr 0 0 3) (.bool false) v3 (.int .i64 (i : Int)) (.ptr b 0 2) (.int .i64 (prevUp a u j)) (.int .i64 (j : Int)) h) (n := u.length) (P := fun i => prevUp a u i ≤ u[i]?.getD 0 ∧ u[i]?.getD 0 ≤ sb) (A := G (.ext 4) (.ptr 0 0 3) (.bool false) v3 (.int .i64 (i : Int)) h) (B := G .ret (.ptr 0 0 3) (.bool false) v3 (.int .i64 (i : Int)) h) (fun j r hj => ?_) (fun r => ?_) r 0 (by omega) (by omega))
  · have g0 : (i : Int) < us.length := by omega
    have g1 : (j : Int) < u.length := by omega
    have w := wrap_succ (n := j) (by simp only [maxLen]; omega)
    have hn : prevUp a u (j + 1) = u[j] := by unfold prevUp; rw [List.getElem?_cons_succ, get_of hj]; rfl
    have sp := spec_l1In_spec u[j] (prevUp a u j) sb
    rw [get_of hj]
    by_cases hp : prevUp a u j ≤ u[j] ∧ u[j] ≤ sb
    · rw [decide_eq_true hp] at sp
      refine Eq.trans ?_ (if_pos hp).symm
      simp only [S.spec_ChainOk.l21]
      simp [h0, hh, g0, g1, w, hu, get_of hj, sp, hn]
    · rw [decide_eq_false hp] at sp
      refine Eq.trans ?_ (if_neg hp).symm
      simp only [S.spec_ChainOk.l21]
      simp [h0, hh, g0, g1, w, hu, get_of hj, sp]
  · have g0 : (i : Int) < us.length := by omega
    simp only [S.spec_ChainOk.l21]
    simp [h0, hh, hu, g0]
theorem upAll (a b : Int) (xs : List Int) : (∀ i, 0 ≤ i → i < xs.length → prevUp a xs i ≤ xs[i]?.getD 0 ∧ xs[i]?.getD 0 ≤ b) ↔ (UpP xs ∧ ∀ n ∈ xs, a ≤ n ∧ n ≤ b) := by
  constructor
  · intro h
    have lo : ∀ i, i < xs.length → a ≤ xs[i]?.getD 0 := by
      intro i
      induction i with
      | zero => intro hi; exact (h 0 (by omega) hi).1
      | succ i ih =>
        intro hi
        have h1 := (h (i + 1) (by omega) hi).1
        have h2 := ih (by omega)
        unfold prevUp at h1
        rw [List.getElem?_cons_succ] at h1
        omega
    refine ⟨fun j hj hl => ?_, fun n hn => ?_⟩
    · have h1 := (h j (by omega) hl).1
      obtain ⟨i, rfl⟩ : ∃ i, j = i + 1 := ⟨j - 1, by omega⟩
      unfold prevUp at h1
      rw [List.getElem?_cons_succ] at h1
      exact h1
    · obtain ⟨i, hi, rfl⟩ := List.getElem_of_mem hn
      have h1 := lo i hi
      have h2 := (h i (by omega) hi).2
      rw [get_of hi] at h1 h2
      exact ⟨h1, h2⟩
  · rintro ⟨h1, h2⟩ i _ hi
    have h3 := h2 xs[i] (List.getElem_mem hi)
    refine ⟨?_, by rw [get_of hi]; exact h3.2⟩
    cases i with
    | zero => rw [get_of hi]; exact h3.1
    | succ i =>
      have := h1 (i + 1) (by omega) hi
      unfold prevUp
      rw [List.getElem?_cons_succ]
      exact this
def RoundP (xs : CServers) (ds : List (List ByteArray)) (us : List (List Int)) (i : Nat) : Prop := ServerP (xs[i]?.getD ([], 0)).1 (xs[i]?.getD ([], 0)).2 ∧ (i < xs.length - 1 → StepP xs ds us i) ∧ (i = xs.length - 1 → (xs[xs.length - 1]?.getD ([], 0)).2 = (xs[xs.length - 1]?.getD ([], 0)).1.length)
open Classical in
theorem spec_ChainOk_step (xs : CServers) (ds : List (List ByteArray)) (us : List (List Int)) (hm : okChain (xs, ds, us)) (h1 : 1 ≤ xs.length ∧ xs.length ≤ 5) (h2 : ds.length + 1 = xs.length) (h3 : us.length + 1 = xs.length)
    (j r : Nat) (t : Heap) (hj : j < xs.length - 1) :
    if RoundP xs ds us j then ∃ t', ∀ {R : Type} (k : Nat) (hk : 1048576 < k) (G : GX → GV → Heap → Option R), S.spec_ChainOk.l7 k G (r + 1) (.ptr 0 0 3) (.bool false) (.int .i64 (xs.length : Int)) (.int .i64 (j : Int)) (ChainCells xs ds us :: t) = S.spec_ChainOk.l7 k G r (.ptr 0 0 3) (.bool false) (.int .i64 (xs.length : Int)) (.int .i64 ((j + 1 : Nat) : Int)) (ChainCells xs ds us :: t')
    else ∃ t', ∀ {R : Type} (k : Nat) (hk : 1048576 < k) (G : GX → GV → Heap → Option R), S.spec_ChainOk.l7 k G (r + 1) (.ptr 0 0 3) (.bool false) (.int .i64 (xs.length : Int)) (.int .i64 (j : Int)) (ChainCells xs ds us :: t) = G .ret (.bool false) (ChainCells xs ds us :: t') := by
  obtain ⟨⟨hx, hx'⟩, ⟨hd, hd'⟩, ⟨hu, hu'⟩⟩ := hm
  simp only at hx hx' hd hd' hu hu'
  have j0 : j < xs.length := by omega
  have j1 : j + 1 < xs.length := by omega
  have jd : j < ds.length := by omega
  have ju : j < us.length := by omega
  have w2 := wrap_succ (n := j) (by simp only [maxLen]; omega)
  have w1 : IntKind.i64.wrap ((xs.length : Int) - 1) = (xs.length : Int) - 1 := by rw [wrap_id] <;> omega
  have g2 : (j : Int) < (xs.length : Int) := by omega
  have g3 : (0 : Int) ≤ (j : Int) + 1 ∧ (j : Int) + 1 < (xs.length : Int) := by omega
  have g6 : ¬ ((j : Int) = (xs.length : Int) - 1) := by omega
  have t1 : ((j : Int) + 1).toNat = j + 1 := by omega
  have hP : RoundP xs ds us j ↔ ServerP xs[j].1 xs[j].2 ∧ (xs[j].2 ≤ xs[j + 1].2 ∧ xs[j].1 = xs[j + 1].1 ++ ds[j] ∧ (UpP us[j] ∧ ∀ n ∈ us[j], xs[j].2 ≤ n ∧ n ≤ xs[j + 1].2)) := by
    unfold RoundP StepP
    rw [get_of j0, get_of j1, get_of jd, get_of ju]
    exact ⟨fun h => ⟨h.1, h.2.1 hj⟩, fun h => ⟨h.1, fun _ => h.2, fun h' => absurd h' (by omega)⟩⟩
  have bl0 : xs[j].1.length ≤ 1048576 := (hx' _ (List.getElem_mem j0)).1
  have bl1 : xs[j + 1].1.length ≤ 1048576 := (hx' _ (List.getElem_mem j1)).1
  have bd : ds[j].length ≤ 1048576 := (hd' _ (List.getElem_mem jd)).1
  have bu : us[j].length ≤ 1048576 := (hu' _ (List.getElem_mem ju))
  by_cases c1 : xs[j].1.length ≤ 60
  case neg =>
    rw [if_neg (fun h => c1 (hP.1 h).1.1)]
    have c1' : (60 : Int) < xs[j].1.length := by omega
    refine ⟨t ++ [[fzl true 1 cs xs[j].1, .int .i64 xs[j].2]], fun {R} k hk G => ?_⟩
    simp only [S.spec_ChainOk.l7]
    simp [g2, get_of j0, get_app, get_app0, set_app, set_app0, c1']
  have c1' : ¬ ((60 : Int) < xs[j].1.length) := by omega
  have s1 := spec_l1In_spec xs[j].2 0 xs[j].1.length
  by_cases c2 : 0 ≤ xs[j].2 ∧ xs[j].2 ≤ xs[j].1.length
  case neg =>
    rw [if_neg (fun h => c2 (hP.1 h).1.2.1)]
    rw [decide_eq_false c2] at s1
    refine ⟨t ++ [[fzl true 1 cs xs[j].1, .int .i64 xs[j].2]], fun {R} k hk G => ?_⟩
    simp only [S.spec_ChainOk.l7]
    simp [g2, get_of j0, get_app, get_app0, set_app, set_app0, c1', s1]
  rw [decide_eq_true c2] at s1
  have s2 := fun {R : Type} (k : Nat) (hk : 1048576 < k) (G : GX → GV → GV → GV → GV → GV → Heap → Option R) => spec_ChainOk_l37 xs[j].1 xs[j].2 bl0 (t.length + 1) (ChainCells xs ds us :: (t ++ [[fzl true 1 cs xs[j].1, .int .i64 xs[j].2]])) (by rw [List.getElem?_cons_succ, get_app0]; rfl) (.ptr 0 0 3) (.bool false) (.int .i64 (xs.length : Int)) (.int .i64 (j : Int)) k (by omega) k G
  have e3 : (∀ i, 0 ≤ i → i < xs[j].1.length → (xs[j].1[i]?.getD default).size ≤ 200) ↔ ∀ a ∈ xs[j].1, a.size ≤ 200 := by
    constructor
    · intro h a ha
      obtain ⟨i, hi, rfl⟩ := List.getElem_of_mem ha
      have := h i (by omega) hi
      rwa [get_of hi] at this
    · intro h i _ hi
      rw [get_of hi]
      exact h _ (List.getElem_mem hi)
  by_cases c3 : ∀ a ∈ xs[j].1, a.size ≤ 200
  case neg =>
    rw [if_neg (fun h => c3 (hP.1 h).1.2.2)]
    refine ⟨t ++ [[fzl true 1 cs xs[j].1, .int .i64 xs[j].2]], fun {R} k hk G => ?_⟩
    have s3 := fun (G : GX → GV → GV → GV → GV → GV → Heap → Option R) => (s2 k hk G).trans (if_neg (fun h => c3 (e3.1 h)))
    simp only [S.spec_ChainOk.l7]
    simp [g2, get_of j0, get_app, get_app0, set_app, set_app0, c1', s1, s3]
  have hS : ServerP xs[j].1 xs[j].2 := ⟨c1, c2, c3⟩
  obtain ⟨t2, s4⟩ := spec_ChainOk_n32 xs ds us xs[j] xs[j + 1] ds[j] j t (.int .i64 (xs.length : Int)) jd (get_of jd) bl0 bl1 bd
  by_cases c4 : xs[j].2 ≤ xs[j + 1].2 ∧ xs[j].1 = xs[j + 1].1 ++ ds[j]
  case neg =>
    rw [if_neg (fun h => c4 ⟨(hP.1 h).2.1, (hP.1 h).2.2.1⟩)]
    refine ⟨t ++ [[fzl true 1 cs xs[j].1, .int .i64 xs[j].2], [fzl true 1 cs xs[j + 1].1, .int .i64 xs[j + 1].2]] ++ t2, fun {R} k hk G => ?_⟩
    have s3 := fun (G : GX → GV → GV → GV → GV → GV → Heap → Option R) => (s2 k hk G).trans (if_pos (e3.2 c3))
    have c4' : (decide (xs[j + 1].2 < xs[j].2) || !decide (xs[j].1 = xs[j + 1].1 ++ ds[j])) = true := by
      rw [Bool.or_eq_true, decide_eq_true_eq, Bool.not_eq_true', decide_eq_false_iff_not]
      by_cases q : xs[j].2 ≤ xs[j + 1].2
      · exact Or.inr (fun h => c4 ⟨q, h⟩)
      · exact Or.inl (by omega)
    simp only [c4'] at s4
    simp only [S.spec_ChainOk.l7]
    simp [-S.spec_ChainOk.n32, g2, g3.1, g3.2, g6, t1, w1, w2, get_of j0, get_of j1, get_app, get_app0, set_app, set_app0, c1', s1, s3, s4]
  have c4' : (decide (xs[j + 1].2 < xs[j].2) || !decide (xs[j].1 = xs[j + 1].1 ++ ds[j])) = false := by
    rw [Bool.or_eq_false_iff, decide_eq_false_iff_not, Bool.not_eq_false', decide_eq_true_eq]
    exact ⟨by omega, c4.2⟩
  simp only [c4'] at s4
  have s5 := fun {R : Type} (k : Nat) (hk : 1048576 < k) (G : GX → GV → GV → GV → GV → Heap → Option R) => spec_ChainOk_l21 xs ds us us[j] xs[j].2 xs[j + 1].1 xs[j + 1].2 j ju (get_of ju) bu (t.length + 2) (ChainCells xs ds us :: (t ++ [[fzl true 1 cs xs[j].1, .int .i64 xs[j].2], [fzl true 1 cs xs[j + 1].1, .int .i64 xs[j + 1].2]] ++ t2)) rfl (by rw [List.getElem?_cons_succ, List.append_assoc, get_app]; rfl) (.int .i64 (xs.length : Int)) k (by omega) k G
  rw [List.append_assoc] at s5
  by_cases c5 : UpP us[j] ∧ ∀ n ∈ us[j], xs[j].2 ≤ n ∧ n ≤ xs[j + 1].2
  case neg =>
    rw [if_neg (fun h => c5 (hP.1 h).2.2.2)]
    refine ⟨t ++ [[fzl true 1 cs xs[j].1, .int .i64 xs[j].2], [fzl true 1 cs xs[j + 1].1, .int .i64 xs[j + 1].2]] ++ t2, fun {R} k hk G => ?_⟩
    have s3 := fun (G : GX → GV → GV → GV → GV → GV → Heap → Option R) => (s2 k hk G).trans (if_pos (e3.2 c3))
    have s6 := fun (G : GX → GV → GV → GV → GV → Heap → Option R) => (s5 k hk G).trans (if_neg (fun h => c5 ((upAll _ _ _).1 h)))
    simp only [S.spec_ChainOk.l7]
    simp [-S.spec_ChainOk.n32, g2, g3.1, g3.2, g6, t1, w1, w2, get_of j0, get_of j1, get_app, get_app0, set_app, set_app0, c1', s1, s3, s4]
    simp at s6
    simp [s6]
  rw [if_pos (hP.2 ⟨hS, c4.1, c4.2, c5⟩)]
  refine ⟨t ++ [[fzl true 1 cs xs[j].1, .int .i64 xs[j].2], [fzl true 1 cs xs[j + 1].1, .int .i64 xs[j + 1].2]] ++ t2, fun {R} k hk G => ?_⟩
  have s3 := fun (G : GX → GV → GV → GV → GV → GV → Heap → Option R) => (s2 k hk G).trans (if_pos (e3.2 c3))
  have s6 := fun (G : GX → GV → GV → GV → GV → Heap → Option R) => (s5 k hk G).trans (if_pos ((upAll _ _ _).2 c5))
  simp only [S.spec_ChainOk.l7]
  simp [-S.spec_ChainOk.n32, g2, g3.1, g3.2, g6, t1, w1, w2, get_of j0, get_of j1, get_app, get_app0, set_app, set_app0, c1', s1, s3, s4]
  simp at s6
  simp [s6, w2]
open Classical in
theorem spec_ChainOk_last (xs : CServers) (ds : List (List ByteArray)) (us : List (List Int)) (hm : okChain (xs, ds, us)) (h1 : 1 ≤ xs.length ∧ xs.length ≤ 5) (r : Nat) (t : Heap) :
    ∃ t', ∀ {R : Type} (k : Nat) (hk : 1048576 < k) (G : GX → GV → Heap → Option R), S.spec_ChainOk.l7 k G (r + 1) (.ptr 0 0 3) (.bool false) (.int .i64 (xs.length : Int)) (.int .i64 ((xs.length - 1 : Nat) : Int)) (ChainCells xs ds us :: t) = G .ret (.bool (decide (RoundP xs ds us (xs.length - 1)))) (ChainCells xs ds us :: t') := by
  obtain ⟨⟨hx, hx'⟩, ⟨hd, hd'⟩, ⟨hu, hu'⟩⟩ := hm
  simp only at hx hx' hd hd' hu hu'
  obtain ⟨j, hl⟩ : ∃ l, xs.length = l + 1 := ⟨xs.length - 1, by omega⟩
  have q2 : xs.length - 1 = j := by omega
  have j0 : j < xs.length := by omega
  have w1 : IntKind.i64.wrap ((xs.length : Int) - 1) = (xs.length : Int) - 1 := by rw [wrap_id] <;> omega
  have g2 : (j : Int) < (xs.length : Int) := by omega
  have g6 : (xs.length : Int) - 1 = (j : Int) := by omega
  have hP : RoundP xs ds us j ↔ ServerP xs[j].1 xs[j].2 ∧ xs[j].2 = xs[j].1.length := by
    unfold RoundP
    rw [q2, get_of j0]
    exact ⟨fun h => ⟨h.1, h.2.2 rfl⟩, fun h => ⟨h.1, fun h' => absurd h' (by omega), fun _ => h.2⟩⟩
  have bl0 : xs[j].1.length ≤ 1048576 := (hx' _ (List.getElem_mem j0)).1
  rw [q2]
  refine ⟨t ++ [[fzl true 1 cs xs[j].1, .int .i64 xs[j].2]], fun {R} k hk G => ?_⟩
  by_cases c1 : xs[j].1.length ≤ 60
  case neg =>
    rw [decide_eq_false (fun h => c1 (hP.1 h).1.1)]
    have c1' : (60 : Int) < xs[j].1.length := by omega
    simp only [S.spec_ChainOk.l7]
    simp [g2, get_of j0, get_app, get_app0, set_app, set_app0, c1']
  have c1' : ¬ ((60 : Int) < xs[j].1.length) := by omega
  have s1 := spec_l1In_spec xs[j].2 0 xs[j].1.length
  by_cases c2 : 0 ≤ xs[j].2 ∧ xs[j].2 ≤ xs[j].1.length
  case neg =>
    rw [decide_eq_false (fun h => c2 (hP.1 h).1.2.1)]
    rw [decide_eq_false c2] at s1
    simp only [S.spec_ChainOk.l7]
    simp [g2, get_of j0, get_app, get_app0, set_app, set_app0, c1', s1]
  rw [decide_eq_true c2] at s1
  have s2 := fun (G : GX → GV → GV → GV → GV → GV → Heap → Option R) => spec_ChainOk_l37 xs[j].1 xs[j].2 bl0 (t.length + 1) (ChainCells xs ds us :: (t ++ [[fzl true 1 cs xs[j].1, .int .i64 xs[j].2]])) (by rw [List.getElem?_cons_succ, get_app0]; rfl) (.ptr 0 0 3) (.bool false) (.int .i64 (xs.length : Int)) (.int .i64 (j : Int)) k (by omega) k G
  have e3 : (∀ i, 0 ≤ i → i < xs[j].1.length → (xs[j].1[i]?.getD default).size ≤ 200) ↔ ∀ a ∈ xs[j].1, a.size ≤ 200 := by
    constructor
    · intro h a ha
      obtain ⟨i, hi, rfl⟩ := List.getElem_of_mem ha
      have := h i (by omega) hi
      rwa [get_of hi] at this
    · intro h i _ hi
      rw [get_of hi]
      exact h _ (List.getElem_mem hi)
  by_cases c3 : ∀ a ∈ xs[j].1, a.size ≤ 200
  case neg =>
    rw [decide_eq_false (fun h => c3 (hP.1 h).1.2.2)]
    have s3 := fun (G : GX → GV → GV → GV → GV → GV → Heap → Option R) => (s2 G).trans (if_neg (fun h => c3 (e3.1 h)))
    simp only [S.spec_ChainOk.l7]
    simp [g2, get_of j0, get_app, get_app0, set_app, set_app0, c1', s1, s3]
  have hS : ServerP xs[j].1 xs[j].2 := ⟨c1, c2, c3⟩
  have e4 : decide (RoundP xs ds us j) = decide (xs[j].2 = xs[j].1.length) := by
    rw [Bool.eq_iff_iff, decide_eq_true_eq, decide_eq_true_eq, hP]
    exact ⟨fun h => h.2, fun h => ⟨hS, h⟩⟩
  have s3 := fun (G : GX → GV → GV → GV → GV → GV → Heap → Option R) => (s2 G).trans (if_pos (e3.2 c3))
  rw [e4]
  simp only [S.spec_ChainOk.l7]
  simp [g2, g6, w1, get_of j0, get_app, get_app0, set_app, set_app0, c1', s1, s3]
  have w3 : IntKind.i64.wrap (j : Int) = (j : Int) := by rw [wrap_id] <;> omega
  simp [w3]
open Classical in
theorem spec_ChainOk_spec (xs : CServers) (ds : List (List ByteArray)) (us : List (List Int)) (hm : okChain (xs, ds, us)) :
    NN fn.spec_ChainOk [.agg [fzl true 2 (mServer true) xs, fzl true 1 (mStringS true) ds, fzl true 1 (mInt64S true) us]] = some (.bool (decide (ChainP xs ds us))) := by
  obtain ⟨k, hk⟩ : ∃ k, 1048576 < k + 1 := ⟨1048577, by omega⟩
  have hm' := hm
  obtain ⟨⟨hx, hx'⟩, ⟨hd, hd'⟩, ⟨hu, hu'⟩⟩ := hm'
  simp only at hx hx' hd hd' hu hu'
  apply S.spec_ChainOk.gives (k := k + 1)
  have w1 : IntKind.i64.wrap ((xs.length : Int) - 1) = (xs.length : Int) - 1 := by rw [wrap_id] <;> omega
  by_cases h1 : 1 ≤ xs.length
  case neg =>
    rw [decide_eq_false (fun h => h1 h.1.1)]
    have c1 : (xs.length : Int) < 1 := by omega
    simp [S.spec_ChainOk.run, c1, w1]
  have c1 : ¬ ((xs.length : Int) < 1) := by omega
  by_cases h1' : xs.length ≤ 5
  case neg =>
    rw [decide_eq_false (fun h => h1' h.1.2)]
    have c2 : (5 : Int) < (xs.length : Int) := by omega
    simp [S.spec_ChainOk.run, c1, c2, w1]
  have c2 : ¬ ((5 : Int) < (xs.length : Int)) := by omega
  by_cases h2 : ds.length + 1 = xs.length
  case neg =>
    rw [decide_eq_false (fun h => h2 h.2.1)]
    have : ¬ ((ds.length : Int) = (xs.length : Int) - 1) := by omega
    simp [S.spec_ChainOk.run, c1, c2, w1, this]
  have h2' : (ds.length : Int) = (xs.length : Int) - 1 := by omega
  by_cases h3 : us.length + 1 = xs.length
  case neg =>
    rw [decide_eq_false (fun h => h3 h.2.2.1)]
    have : ¬ ((us.length : Int) = (xs.length : Int) - 1) := by omega
    simp [S.spec_ChainOk.run, c1, c2, w1, h2', this]
  have h3' : (us.length : Int) = (xs.length : Int) - 1 := by omega
  simp [S.spec_ChainOk.run, c1, c2, w1, h2', h3']
  refine (loop_allS (f := fun r j (t : Heap) => S.spec_ChainOk.l7 _ _ (r + 1) (.ptr 0 0 3) (.bool false) (.int .i64 (xs.length : Int)) (.int .i64 (j : Int)) (ChainCells xs ds us :: t)) (A := some (GV.bool (decide (RoundP xs ds us (xs.length - 1))))) (B := some (GV.bool false)) (n := xs.length - 1) (P := fun j => RoundP xs ds us j) (fun j r t hj => ?_) (fun r t => ?_) k 0 [] (by omega) (by omega)).trans ?_
  · have hs := spec_ChainOk_step xs ds us hm ⟨h1, h1'⟩ h2 h3 j (r + 1) t hj
    by_cases hp : RoundP xs ds us j
    · rw [if_pos hp] at hs ⊢
      obtain ⟨t', hs⟩ := hs
      exact ⟨t', hs _ hk _⟩
    · rw [if_neg hp] at hs ⊢
      obtain ⟨t', hs⟩ := hs
      rw [hs _ hk]
      simp
  · obtain ⟨t', hs⟩ := spec_ChainOk_last xs ds us hm ⟨h1, h1'⟩ (r + 1) t
    rw [hs _ hk]
    simp
  · have key : ChainP xs ds us ↔ (∀ i, 0 ≤ i → i < xs.length - 1 → RoundP xs ds us i) ∧ RoundP xs ds us (xs.length - 1) := by
      unfold ChainP
      constructor
      · intro h
        have hs : ∀ i, i < xs.length → ServerP (xs[i]?.getD ([], 0)).1 (xs[i]?.getD ([], 0)).2 := fun i hi => by
          rw [get_of hi]
          exact h.2.2.2.1 _ (List.getElem_mem hi)
        exact ⟨fun i h0 hi => ⟨hs i (by omega), fun _ => h.2.2.2.2.1 i h0 hi, fun h' => absurd h' (by omega)⟩, ⟨hs _ (by omega), fun h' => absurd h' (by omega), fun _ => h.2.2.2.2.2⟩⟩
      · intro h
        refine ⟨⟨h1, h1'⟩, h2, h3, fun s hs => ?_, fun i h0 hi => (h.1 i h0 hi).2.1 hi, h.2.2.2 rfl⟩
        obtain ⟨i, hi, rfl⟩ := List.getElem_of_mem hs
        have : ServerP (xs[i]?.getD ([], 0)).1 (xs[i]?.getD ([], 0)).2 := by
          rcases Nat.lt_or_ge i (xs.length - 1) with h' | h'
          · exact (h.1 i (by omega) h').1
          · have : i = xs.length - 1 := by omega
            subst this
            exact h.2.1
        rwa [get_of hi] at this
    by_cases hs : ∀ i, 0 ≤ i → i < xs.length - 1 → RoundP xs ds us i
    · rw [if_pos hs]
      congr 2
      rw [Bool.eq_iff_iff, decide_eq_true_eq, decide_eq_true_eq, key]
      exact ⟨fun h => ⟨hs, h⟩, fun h => h.2⟩
    · rw [if_neg hs, decide_eq_false (fun h => hs (key.1 h).1)]
end Go.Proofs.Ytlbnioapepelnaa.G
