/- For every Entry that can be read as data the program's EntryOk and the reference's EntryOk answer alike: the law FnExactEntryOk returns true and leaves memory as it was. No further condition. -/
import Derived.Test.YtleeifecdjolhaaPFnExactEntryOkx1
namespace Go.Proofs.Ytleeifecdjolhaa.Pure
set_option linter.unusedVariables false
open Go.RowKit Go.Proofs.Ytleeifecdjolhaa.PFnExactEntryOk Go.Proofs.YtleeifecdjolhaaW.PrintWords Go.Proofs.YtleeifecdjolhaaW.PrintLast Go.Proofs.YtleeifecdjolhaaW.PrintMore

theorem in_is (a lo hi : Int) : spec_l1In.f a lo hi = some (decide (lo ≤ a ∧ a ≤ hi)) := by
  unfold spec_l1In.f
  split <;> congr 1 <;> rw [Bool.eq_iff_iff] <;> simp <;> omega
theorem impl_in_is (a lo hi : Int) : impl_in.f a lo hi = some (decide (lo ≤ a ∧ a ≤ hi)) := by
  unfold impl_in.f
  split <;> congr 1 <;> rw [Bool.eq_iff_iff] <;> simp <;> omega

theorem entry_both (a b c : Int) (s : ByteArray) : ∃ r, spec_EntryOk.f a b c s = some r ∧ impl_EntryOk.f a b c s = some r := by
  unfold spec_EntryOk.f impl_EntryOk.f impl_isKeys.f
  simp only [in_is, impl_in_is, Option.bind_some, decide_eq_true_eq]
  have e : (s.toList == ([] : List UInt8)) = ((s.size : Int) == 0) := by
    rw [Bool.eq_iff_iff, beq_iff_eq, beq_iff_eq]
    rw [← List.length_eq_zero_iff, ByteArray.toList_eq]
    simp
  rw [e]
  have len1 : (if (s.size : Int) ≥ 1 then some (decide ((s.size : Int) ≤ 20)) else some false) = some (decide (1 ≤ (s.size : Int) ∧ (s.size : Int) ≤ 20)) := by
    by_cases h : (s.size : Int) ≥ 1
    · rw [if_pos h]; congr 1; rw [Bool.eq_iff_iff]; simp; omega
    · rw [if_neg h]; congr 1; rw [Bool.eq_iff_iff]; simp; omega
  have len2 : (if (s.size : Int) ≥ 1 then some (decide ((s.size : Int) ≤ 60)) else some false) = some (decide (1 ≤ (s.size : Int) ∧ (s.size : Int) ≤ 60)) := by
    by_cases h : (s.size : Int) ≥ 1
    · rw [if_pos h]; congr 1; rw [Bool.eq_iff_iff]; simp; omega
    · rw [if_neg h]; congr 1; rw [Bool.eq_iff_iff]; simp; omega
  rw [len1, len2]
  have one : ∀ X : Option Bool, (∃ r, X = some r) → ∃ r, X = some r ∧ X = some r := fun X ⟨r, h⟩ => ⟨r, h, h⟩
  apply one
  by_cases h1 : a = 1
  · rw [if_pos h1]
    by_cases h2 : 0 ≤ b ∧ b ≤ 3
    · rw [if_pos h2]
      by_cases h3 : 1 ≤ c ∧ c ≤ 10000
      · rw [if_pos h3]; exact ⟨_, rfl⟩
      · rw [if_neg h3]; exact ⟨_, rfl⟩
    · rw [if_neg h2]; exact ⟨_, rfl⟩
  · rw [if_neg h1]
    by_cases h2 : a = 2
    · rw [if_pos h2]
      by_cases h3 : b = 0
      · rw [if_pos h3]
        by_cases h4 : c = 0
        · rw [if_pos h4]; exact ⟨_, rfl⟩
        · rw [if_neg h4]; exact ⟨_, rfl⟩
      · rw [if_neg h3]; exact ⟨_, rfl⟩
    · rw [if_neg h2]
      by_cases h3 : a = 3
      · rw [if_pos h3]
        by_cases h4 : 1 ≤ b ∧ b ≤ 60
        · rw [if_pos h4]
          by_cases h5 : 1 ≤ c ∧ c ≤ 30
          · rw [if_pos h5]; exact ⟨_, rfl⟩
          · rw [if_neg h5]; exact ⟨_, rfl⟩
        · rw [if_neg h4]; exact ⟨_, rfl⟩
      · rw [if_neg h3]; exact ⟨_, rfl⟩

theorem FnExactEntryOk (a0_0 : Int) (a0_1 : Int) (a0_2 : Int) (a0_3 : ByteArray) (W : World)
    (w0_0 : (Lit.int .i64 a0_0).wf = true)
    (w0_1 : (Lit.int .i64 a0_1).wf = true)
    (w0_2 : (Lit.int .i64 a0_2).wf = true)
    (w0_3 : a0_3.size ≤ maxLen) :
    Calls Try.prog 5 #[.agg #[.int .i64 a0_0, .int .i64 a0_1, .int .i64 a0_2, .string a0_3]] W fun e W' => e = .returned (.bool true) ∧ Below W.heap.size W W' := by
  have h : laws_FnExactEntryOk.f a0_0 a0_1 a0_2 a0_3 = some true := by
    unfold laws_FnExactEntryOk.f laws_szEntry.f laws_toEntry.f
    obtain ⟨r, e1, e2⟩ := entry_both a0_0 a0_1 a0_2 a0_3
    split
    · simp
    · simp only [Option.bind_some]
      split
      · rfl
      · rw [e1]; simp only [Option.bind_some]; rw [e2]; simp
  exact laws_FnExactEntryOk.calls a0_0 a0_1 a0_2 a0_3 true W h

end Go.Proofs.Ytleeifecdjolhaa.Pure
