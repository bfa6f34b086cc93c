/- Decimal numerals: plain laws, without Go and memory. -/
import Derived.Lib.ItoaNum
import Derived.Lib.ItoaLen
import Derived.Lib.ParseIntB
namespace Go.Proofs.YtklhdbkaejbajaaDoor.G
set_option linter.unusedVariables false
set_option linter.unusedSimpArgs false
open Go.Lib

/-- The digits of what is left, ahead of what there is. -/
def decGo (u : Nat) (s : List UInt8) : List UInt8 := if u = 0 then s else decDigits u ++ s
theorem decDigits_small {u : Nat} (h : u < 10) : decDigits u = [UInt8.ofNat (48 + u)] := by rw [decDigits, dif_pos h]
theorem decDigits_big {u : Nat} (h : ¬ u < 10) : decDigits u = decDigits (u / 10) ++ [UInt8.ofNat (48 + u % 10)] := by rw [decDigits, dif_neg h]
theorem decGo_step {u : Nat} (s : List UInt8) (h : u ≠ 0) : decGo u s = decGo (u / 10) (UInt8.ofNat (48 + u % 10) :: s) := by
  unfold decGo
  rw [if_neg h]
  by_cases h1 : u < 10
  · rw [decDigits_small h1, if_pos (by omega), Nat.mod_eq_of_lt h1]; rfl
  · rw [decDigits_big h1, if_neg (by omega), List.append_assoc]; rfl
theorem decDigits_go (u : Nat) : decDigits u = decGo (u / 10) [UInt8.ofNat (48 + u % 10)] := by
  unfold decGo
  by_cases h1 : u < 10
  · rw [decDigits_small h1, if_pos (by omega), Nat.mod_eq_of_lt h1]
  · rw [decDigits_big h1, if_neg (by omega)]
theorem decDigits_len (u : Nat) : (decDigits u).length = nDigits u := by rw [decDigits_eq]; simp
theorem nDigits_le : ∀ (k u : Nat), u < 10 ^ k → 1 ≤ k → nDigits u ≤ k
  | 0, u, _, h => by omega
  | 1, u, h, _ => by rw [nDigits_small (by simpa using h)]; exact Nat.le_refl _
  | k + 2, u, h, _ => by
    by_cases h1 : u < 10
    · rw [nDigits_small h1]; omega
    · rw [nDigits_big h1]
      have := nDigits_le (k + 1) (u / 10) (by rw [Nat.pow_succ] at h; omega) (by omega)
      omega
theorem itoa_len {n : Int} (h : -9223372036854775808 ≤ n) (h' : n ≤ 9223372036854775807) : (itoa n).length ≤ 20 := by
  unfold itoa
  split
  · rw [List.length_cons, decDigits_len]
    have := nDigits_le 19 n.natAbs (by omega) (by omega)
    omega
  · rw [decDigits_len]
    have := nDigits_le 19 n.toNat (by omega) (by omega)
    omega
theorem dig_of {u : Nat} (h : u < 10) : (UInt8.ofNat (48 + u)).toNat = 48 + u := by simp [UInt8.toNat_ofNat']; omega
theorem dec_dig (u : Nat) : ∀ c ∈ decDigits u, 48 ≤ c.toNat ∧ c.toNat ≤ 57 := by
  induction u using Nat.strongRecOn with
  | _ u ih =>
    intro c hc
    by_cases h : u < 10
    · rw [decDigits_small h, List.mem_singleton] at hc
      subst hc
      rw [dig_of h]; omega
    · rw [decDigits_big h] at hc
      rcases List.mem_append.1 hc with hc | hc
      · exact ih (u / 10) (by omega) c hc
      · rw [List.mem_singleton] at hc
        subst hc
        rw [dig_of (by omega)]; omega
theorem dec_ne (u : Nat) : decDigits u ≠ [] := by
  intro h
  have := decDigits_len u
  rw [h] at this
  have := nDigits_pos u
  simp only [List.length_nil] at *
  omega
theorem parseM_app (M : Nat) : ∀ (a b : List UInt8) (acc v : Nat), parseUintM M acc a = .ok v → parseUintM M acc (a ++ b) = parseUintM M v b
  | [], b, acc, v, h => by
    simp only [parseUintM] at h
    injection h with h
    rw [h]; rfl
  | c :: a, b, acc, v, h => by
    simp only [parseUintM, List.cons_append] at h ⊢
    split at h
    · rename_i h1
      rw [if_pos h1]
      split at h
      · cases h
      · rename_i h2
        rw [if_neg h2]
        split at h
        · cases h
        · rename_i h3
          rw [if_neg h3]
          exact parseM_app M a b _ v h
    · cases h
theorem parseM_dec (u : Nat) (h : u ≤ 18446744073709551615) : parseUintM 18446744073709551615 0 (decDigits u) = .ok u := by
  induction u using Nat.strongRecOn with
  | _ u ih =>
    by_cases h1 : u < 10
    · rw [decDigits_small h1]
      simp only [parseUintM]
      rw [dig_of h1, if_pos (by omega), if_neg (by omega), if_neg (by omega)]
      congr 1; omega
    · rw [decDigits_big h1, parseM_app _ _ _ _ _ (ih (u / 10) (by omega) (by omega))]
      simp only [parseUintM]
      rw [dig_of (by omega), if_pos (by omega), if_neg (by omega), if_neg (by omega)]
      congr 1; omega
/-- What is written in digits is read again. -/
theorem parse_itoa {n : Int} (h : 0 ≤ n) (h' : n ≤ 9223372036854775807) : parseIntB 64 (itoa n) = .ok n := by
  have e : itoa n = decDigits n.toNat := by unfold itoa; rw [if_neg (by omega)]
  have hd := dec_dig n.toNat
  have hp := parseM_dec n.toNat (by omega)
  have hne := dec_ne n.toNat
  rw [e]
  generalize decDigits n.toNat = l at *
  cases l with
  | nil => exact absurd rfl hne
  | cons c r =>
    have hc := hd c (by simp)
    unfold parseIntB
    have e1 : parseUintB 64 (if c.toNat = 43 ∨ c.toNat = 45 then r else c :: r) = .ok n.toNat := by
      rw [if_neg (by omega)]
      unfold parseUintB
      rw [if_neg (by simp)]
      exact hp
    simp only [e1]
    rw [if_neg (by simp; omega), if_neg (by omega), if_neg (by omega)]
    congr 1; omega
theorem itoa_no {n : Int} {c : UInt8} (h : c ∈ itoa n) : c.toNat = 45 ∨ (48 ≤ c.toNat ∧ c.toNat ≤ 57) := by
  unfold itoa at h
  split at h
  · rcases List.mem_cons.1 h with rfl | h
    · exact .inl rfl
    · exact .inr (dec_dig _ c h)
  · exact .inr (dec_dig _ c h)
end Go.Proofs.YtklhdbkaejbajaaDoor.G
