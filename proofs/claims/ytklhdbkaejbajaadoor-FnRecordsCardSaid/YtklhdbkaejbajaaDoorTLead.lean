/- Texts cut at a sign, digits ahead. -/
import Derived.Test.YtklhdbkaejbajaaDoorTIn
import Derived.Lib.IndexMore
namespace Go.Proofs.YtklhdbkaejbajaaDoor.G
open Go.RowKit Go.Lib
set_option linter.unusedVariables false
set_option linter.unusedSimpArgs false

theorem index_cons (b c : UInt8) (l : List UInt8) : index (b :: l) [c] = if c = b then 0 else if index l [c] = -1 then -1 else index l [c] + 1 := by
  have e : ([c].isPrefixOf (b :: l)) = decide (c = b) := by
    rw [Bool.eq_iff_iff]; simp
  show (if ([c].isPrefixOf (b :: l)) = true then (0 : Int) else if (index l [c] == -1) = true then -1 else index l [c] + 1) = _
  rw [e]
  simp only [decide_eq_true_eq, beq_iff_eq]
theorem index_hit1 {c : UInt8} : ∀ (A R : List UInt8), c ∉ A → index (A ++ c :: R) [c] = A.length
  | [], R, _ => by rw [List.nil_append, index_cons, if_pos rfl]; rfl
  | b :: A, R, h => by
    have h1 : c ≠ b := fun e => h (e ▸ List.mem_cons_self ..)
    have h2 := index_hit1 A R (fun hc => h (List.mem_cons_of_mem _ hc))
    rw [List.cons_append, index_cons, if_neg h1, h2, if_neg (by omega), List.length_cons]
    omega
theorem index_miss1 {c : UInt8} : ∀ (A : List UInt8), c ∉ A → index A [c] = -1
  | [], _ => rfl
  | b :: A, h => by
    have h1 : c ≠ b := fun e => h (e ▸ List.mem_cons_self ..)
    have h2 := index_miss1 A (fun hc => h (List.mem_cons_of_mem _ hc))
    rw [index_cons, if_neg h1, h2, if_pos rfl]
theorem cut_hit {c : UInt8} {A R : List UInt8} (h : c ∉ A) : cut (A ++ c :: R) [c] = (A, R, true) := by
  unfold cut
  rw [index_hit1 A R h, if_pos (by omega)]
  simp [List.drop_append]
theorem cut_miss {c : UInt8} {A : List UInt8} (h : c ∉ A) : cut A [c] = (A, [], false) := by
  unfold cut
  rw [index_miss1 A h, if_neg (by omega)]
theorem cut_len (s sep : List UInt8) : (cut s sep).1.length ≤ s.length ∧ (cut s sep).2.1.length ≤ s.length := by
  unfold cut
  split
  · simp; omega
  · simp

def isDig (b : UInt8) : Bool := decide (48 ≤ (b.toNat : Int)) && decide ((b.toNat : Int) ≤ 57)
/-- The digits ahead, n at most. -/
def lead : Nat → List UInt8 → List UInt8
  | 0, _ => []
  | _ + 1, [] => []
  | n + 1, b :: l => if isDig b then b :: lead n l else []
theorem lead_lt : ∀ (n : Nat) (d : List UInt8) (j : Nat) (hj : j < (lead n d).length), ∃ h : j < d.length, isDig d[j] = true ∧ j < n ∧ (lead n d)[j] = d[j]
  | 0, d, j, hj => by simp [lead] at hj
  | n + 1, [], j, hj => by simp [lead] at hj
  | n + 1, b :: l, j, hj => by
    by_cases hb : isDig b = true
    · have e : lead (n + 1) (b :: l) = b :: lead n l := by simp [lead, hb]
      simp only [e] at hj ⊢
      cases j with
      | zero => exact ⟨by simp, hb, by omega, rfl⟩
      | succ j =>
        obtain ⟨h1, h2, h3, h4⟩ := lead_lt n l j (by simpa using hj)
        exact ⟨by simpa using h1, by simpa using h2, by omega, by simpa using h4⟩
    · have e : lead (n + 1) (b :: l) = [] := by simp [lead, hb]
      simp [e] at hj
theorem lead_end : ∀ (n : Nat) (d : List UInt8), (lead n d).length = n ∨ (lead n d).length = d.length ∨ ∃ h : (lead n d).length < d.length, isDig (d[(lead n d).length]) = false
  | 0, d => .inl rfl
  | n + 1, [] => .inr (.inl rfl)
  | n + 1, b :: l => by
    by_cases hb : isDig b = true
    · have e : lead (n + 1) (b :: l) = b :: lead n l := by simp [lead, hb]
      simp only [e, List.length_cons]
      rcases lead_end n l with h | h | ⟨h1, h2⟩
      · exact .inl (by omega)
      · exact .inr (.inl (by omega))
      · exact .inr (.inr ⟨by omega, by simpa using h2⟩)
    · have e : lead (n + 1) (b :: l) = [] := by simp [lead, hb]
      simp only [e]
      exact .inr (.inr ⟨by simp, by simpa using hb⟩)
theorem lead_len (n : Nat) (d : List UInt8) : (lead n d).length ≤ d.length ∧ (lead n d).length ≤ n := by
  rcases Nat.eq_zero_or_pos (lead n d).length with h | h
  · omega
  · obtain ⟨h1, _, h3, _⟩ := lead_lt n d ((lead n d).length - 1) (by omega)
    omega
theorem lead_app : ∀ (n : Nat) (A : List UInt8) (b : UInt8) (R : List UInt8), (∀ c ∈ A, isDig c = true) → A.length < n → isDig b = false → lead n (A ++ b :: R) = A
  | 0, A, b, R, _, h, _ => by omega
  | n + 1, [], b, R, _, _, hb => by simp [lead, hb]
  | n + 1, c :: A, b, R, hA, h, hb => by
    have hc := hA c (by simp)
    simp only [List.cons_append, lead, hc, if_true]
    rw [lead_app n A b R (fun x hx => hA x (by simp [hx])) (by simpa using h) hb]
/-- How many bytes stand ahead of the first blank. -/
def spc : List UInt8 → Nat
  | [] => 0
  | b :: l => if b = 32 then 0 else spc l + 1
theorem spc_le : ∀ (d : List UInt8), spc d ≤ d.length
  | [] => Nat.le_refl _
  | b :: l => by
    have := spc_le l
    by_cases h : b = 32 <;> simp [spc, h]; omega
theorem spc_lt : ∀ (d : List UInt8) (j : Nat), j < spc d → ∃ h : j < d.length, d[j] ≠ 32
  | [], j, h => by simp [spc] at h
  | b :: l, j, h => by
    by_cases hb : b = 32
    · simp [spc, hb] at h
    · simp only [spc, hb, if_false] at h
      cases j with
      | zero => exact ⟨by simp, hb⟩
      | succ j =>
        obtain ⟨h1, h2⟩ := spc_lt l j (by omega)
        exact ⟨by simpa using h1, by simpa using h2⟩
theorem spc_end : ∀ (d : List UInt8), spc d = d.length ∨ ∃ h : spc d < d.length, d[spc d] = 32
  | [] => .inl rfl
  | b :: l => by
    by_cases hb : b = 32
    · exact .inr ⟨by simp [spc, hb], by simp [spc, hb]⟩
    · have e : spc (b :: l) = spc l + 1 := by simp [spc, hb]
      rcases spc_end l with h | ⟨h1, h2⟩
      · exact .inl (by rw [e, h]; rfl)
      · exact .inr ⟨by rw [e]; simpa using h1, by simp only [e]; simpa using h2⟩
theorem spc_app : ∀ (B R : List UInt8), (32 : UInt8) ∉ B → spc (B ++ 32 :: R) = B.length
  | [], R, _ => by simp [spc]
  | b :: B, R, h => by
    have hb : b ≠ 32 := fun e => h (by simp [e])
    have := spc_app B R (fun hc => h (List.mem_cons_of_mem _ hc))
    simp only [List.cons_append, spc, hb, if_false, this, List.length_cons]

/-- The number that digits spell. -/
def valM (l : List UInt8) : Int := l.foldl (fun n b => n * 10 + ((b.toNat : Int) - 48)) 0
theorem valM_dec (u : Nat) : valM (decDigits u) = u := by
  induction u using Nat.strongRecOn with
  | _ u ih =>
    by_cases h : u < 10
    · rw [decDigits_small h]
      unfold valM
      simp only [List.foldl_cons, List.foldl_nil]
      rw [dig_of h]; omega
    · rw [decDigits_big h]
      unfold valM at ih ⊢
      rw [List.foldl_append, ih (u / 10) (by omega)]
      simp only [List.foldl_cons, List.foldl_nil]
      rw [dig_of (by omega)]; omega
theorem valM_take {l : List UInt8} {j : Nat} (hj : j < l.length) : valM (l.take (j + 1)) = valM (l.take j) * 10 + ((l[j].toNat : Int) - 48) := by
  unfold valM
  exact foldl_take hj
theorem valM_bt {l : List UInt8} (h : ∀ c ∈ l, isDig c = true) : ∀ j, j ≤ l.length → 0 ≤ valM (l.take j) ∧ valM (l.take j) < 10 ^ j
  | 0, _ => by simp [valM]
  | j + 1, hj => by
    have h1 := valM_bt h j (by omega)
    have h2 := h l[j] (List.getElem_mem (by omega))
    simp only [isDig, Bool.and_eq_true, decide_eq_true_eq] at h2
    rw [valM_take (by omega), Int.pow_succ]
    omega
theorem valM_b {l : List UInt8} (h : ∀ c ∈ l, isDig c = true) : 0 ≤ valM l ∧ valM l < 10 ^ l.length := by
  have := valM_bt h l.length (Nat.le_refl _)
  rwa [List.take_length] at this

theorem itoa_nosp {n : Int} : (32 : UInt8) ∉ itoa n := fun h => by
  have := itoa_no h
  simp at this
theorem itoa_dig {n : Int} (h : 0 ≤ n) : ∀ c ∈ itoa n, isDig c = true := fun c hc => by
  have e : itoa n = decDigits n.toNat := by unfold itoa; rw [if_neg (by omega)]
  rw [e] at hc
  have := dec_dig _ c hc
  simp only [isDig, Bool.and_eq_true, decide_eq_true_eq]
  omega
theorem itoa_val {n : Int} (h : 0 ≤ n) : valM (itoa n) = n := by
  have e : itoa n = decDigits n.toNat := by unfold itoa; rw [if_neg (by omega)]
  rw [e, valM_dec]; omega
theorem itoa_pos {n : Int} : 0 < (itoa n).length := by
  unfold itoa
  split
  · simp
  · exact List.length_pos_iff.2 (dec_ne _)
theorem itoa_13 {n : Int} (h : 0 ≤ n) (h' : n ≤ 1099511627776) : (itoa n).length ≤ 13 := by
  have e : itoa n = decDigits n.toNat := by unfold itoa; rw [if_neg (by omega)]
  rw [e, decDigits_len]
  exact nDigits_le 13 n.toNat (by omega) (by omega)
end Go.Proofs.YtklhdbkaejbajaaDoor.G
