/- For every text (of at most 2^47 - 4096 bytes) the program's Sum and the reference's Sum give the same number: the law FnExactSum answers true. No further condition. -/
import Derived.Test.YtleeifecdjolhaaPFnExactSumx1
namespace Go.Proofs.Ytleeifecdjolhaa.Pure
open Go.RowKit Go.Proofs.Ytleeifecdjolhaa.PFnExactSum Go.Proofs.YtleeifecdjolhaaW.PrintWords Go.Proofs.YtleeifecdjolhaaW.PrintLast Go.Proofs.YtleeifecdjolhaaW.PrintMore

theorem max_spec (a b : Int) : spec_l1Max.f a b = some (max a b) := by
  unfold spec_l1Max.f
  split <;> congr 1 <;> omega

theorem mx_zero (a : Int) : mx a 0 = max 0 a := by
  unfold mx
  split <;> omega

theorem tmod_mod (a p : Int) (h : 0 ≤ a) : Int.tmod a p = a % p := Int.tmod_eq_emod_of_nonneg h

theorem mix_loop (k : Nat) : ∀ (b h i : Int), spec_Mix.l0 k b h i = impl_Mix.l0 k h ((max 0 b) % 2147483647) i := by
  induction k with
  | zero => intro b h i; simp only [spec_Mix.l0, impl_Mix.l0]
  | succ k ih =>
    intro b h i
    simp only [spec_Mix.l0, impl_Mix.l0]
    rw [max_spec]
    simp only [Option.bind_some]
    rw [tmod_mod (max 0 b) _ (by omega)]
    split
    · exact ih _ _ _
    · rfl

theorem mix_eq (k : Nat) (a b : Int) : spec_Mix.f k a b = impl_Mix.f k a b := by
  unfold spec_Mix.f impl_Mix.f
  rw [max_spec, mx_zero, mx_zero]
  simp only [Option.bind_some]
  rw [tmod_mod (max 0 a) _ (by omega)]
  exact mix_loop k b _ 0

theorem w1 : wrap64 (0 + 1) = 1 := by unfold wrap64; omega
theorem w2 : wrap64 (1 + 1) = 2 := by unfold wrap64; omega
theorem w3 : wrap64 (2 + 1) = 3 := by unfold wrap64; omega
theorem w4 : wrap64 (3 + 1) = 4 := by unfold wrap64; omega

theorem mix_some (k : Nat) (hk : 5 ≤ k) (a b : Int) : ∃ r, impl_Mix.f k a b = some r := by
  obtain ⟨k, rfl⟩ : ∃ m, k = m + 5 := ⟨k - 5, by omega⟩
  unfold impl_Mix.f
  simp only [impl_Mix.l0]
  rw [if_pos (by omega), w1, if_pos (by omega), w2, if_pos (by omega), w3, if_pos (by omega), w4, if_neg (by omega)]
  exact ⟨_, rfl⟩

theorem wrap_up {i : Int} {n : Nat} (h0 : 0 ≤ i) (h : i < (n : Int)) (hn : n ≤ 140737488351232) : wrap64 (i + 1) = i + 1 := by
  unfold wrap64
  omega

theorem sum_loop (s : ByteArray) (hs : s.size ≤ 140737488351232) (d : Nat) : ∀ (k : Nat) (x i : Int), 0 ≤ i → i ≤ s.size → (s.size : Int) - i = d → d + 6 ≤ k →
    ∃ r, spec_Sum.l0 k s x i = some r ∧ impl_Sum.l0 k s x (s.size : Int) i = some r := by
  induction d with
  | zero =>
    intro k x i h0 h1 hd hk
    obtain ⟨k, rfl⟩ : ∃ m, k = m + 1 := ⟨k - 1, by omega⟩
    refine ⟨x, ?_, ?_⟩
    · simp only [spec_Sum.l0]; rw [if_neg (by omega)]
    · simp only [impl_Sum.l0]; rw [if_neg (by omega)]
  | succ d ih =>
    intro k x i h0 h1 hd hk
    obtain ⟨k, rfl⟩ : ∃ m, k = m + 1 := ⟨k - 1, by omega⟩
    have hlt : i < (s.size : Int) := by omega
    obtain ⟨q, hq⟩ := mix_some k (by omega) x (wrap64 (bt s i))
    obtain ⟨r, e1, e2⟩ := ih k q (i + 1) (by omega) (by omega) (by omega) (by omega)
    refine ⟨r, ?_, ?_⟩
    · simp only [spec_Sum.l0]; rw [if_pos hlt, if_pos h0, mix_eq, hq]; simp only [Option.bind_some]; rw [wrap_up h0 hlt hs]; exact e1
    · simp only [impl_Sum.l0]; rw [if_pos hlt, if_pos h0, if_pos hlt, hq]; simp only [Option.bind_some]; rw [wrap_up h0 hlt hs]; exact e2

theorem FnExactSum : laws_FnExactSum.Pure := by
  intro s hs
  obtain ⟨r, e1, e2⟩ := sum_loop s hs s.size (s.size + 6) 2 0 (by omega) (by omega) (by omega) (by omega)
  refine ⟨s.size + 6, ?_⟩
  unfold laws_FnExactSum.f spec_Sum.f impl_Sum.f
  split
  · rfl
  rw [e1]; simp only [Option.bind_some]; rw [e2]; simp

end Go.Proofs.Ytleeifecdjolhaa.Pure
