/- For all arguments (texts of at most 2^47 - 4096 bytes, whole numbers of 64 bits) the program's Torn and the reference's Torn give the same text: the law FnExactTorn answers true. No further condition. -/
import Derived.Test.YtleeifecdjolhaaPFnExactTornx1
namespace Go.Proofs.Ytleeifecdjolhaa.Pure
open Go.RowKit Go.Proofs.Ytleeifecdjolhaa.PFnExactTorn Go.Proofs.YtleeifecdjolhaaW.PrintWords Go.Proofs.YtleeifecdjolhaaW.PrintLast Go.Proofs.YtleeifecdjolhaaW.PrintMore

theorem cut_both (s : ByteArray) (n : Int) (hs : s.size ≤ 140737488351232) : ∃ r : ByteArray, spec_l16Cut.f s n = some r ∧ impl_first.f s n = some r ∧ r.size ≤ s.size := by
  obtain ⟨m, hm, h0, h1⟩ : ∃ m : Int, m = max 0 (min n (s.size : Int)) ∧ 0 ≤ m ∧ m ≤ (s.size : Int) := ⟨_, rfl, by omega, by omega⟩
  refine ⟨s.extract 0 m.toNat, ?_, ?_, ?_⟩
  · have e1 : spec_l1Min.f n (s.size : Int) = some (min n (s.size : Int)) := by
      unfold spec_l1Min.f
      split <;> congr 1 <;> omega
    have e2 : spec_l1Max.f 0 (min n (s.size : Int)) = some m := by
      unfold spec_l1Max.f
      split <;> congr 1 <;> omega
    unfold spec_l16Cut.f
    rw [e1]; simp only [Option.bind_some]; rw [e2]; simp only [Option.bind_some]
    rw [if_pos h0, if_pos h1]
  · have e : mx 0 (mn n (s.size : Int)) = m := by
      unfold mx mn
      split <;> split at * <;> omega
    unfold impl_first.f
    rw [e, if_pos h0, if_pos h1]
  · rw [ByteArray.size_extract]; omega

theorem FnExactTorn : laws_FnExactTorn.Pure := by
  intro a0 a1 a2 a3 h0 _ h2 _
  obtain ⟨r, e1, e2, hr⟩ := cut_both a0 a1 h0
  obtain ⟨q, e3, e4, hq⟩ := cut_both a2 a3 h2
  unfold laws_FnExactTorn.f spec_Torn.f impl_Torn.f
  split
  · rfl
  split
  · rfl
  rw [e1, e2, e3, e4]
  simp only [Option.bind_some]
  rw [if_pos (by omega)]
  simp

end Go.Proofs.Ytleeifecdjolhaa.Pure
