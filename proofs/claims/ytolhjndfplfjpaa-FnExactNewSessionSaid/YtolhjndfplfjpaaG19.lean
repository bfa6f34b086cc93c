/- Regions in any order. -/
import Derived.Test.YtolhjndfplfjpaaG18
namespace Go.Proofs.Ytolhjndfplfjpaa.G
open Go.RowKit
set_option linter.unusedVariables false
set_option linter.unusedSimpArgs false

section
variable {P : Program} {C : Cfg} {call : GCall} {nt : Nat} {ops : Array Oper} {σs : Nat → GS} {hs : Nat → Heap} {vs : Nat → GV} {lgs : Nat → Lg}

def dstAt (ops : Array Oper) (j : Nat) : Option Tmp := (ops[j]?).bind (·.dst)

/-- A slot's value once the operations of S (below m) have been done. -/
def cur (ops : Array Oper) (σs : Nat → GS) (vs : Nat → GV) (S : Nat → Bool) : Nat → GS
  | 0, t => σs 0 t
  | m + 1, t => if S m = true ∧ dstAt ops m = some t then vs m else cur ops σs vs S m t

/-- A block's content once the operations of S (below m) have been done. -/
def cont (hs : Nat → Heap) (lgs : Nat → Lg) (S : Nat → Bool) : Nat → Nat → Option (List GV)
  | 0, i => (hs 0)[i]?
  | m + 1, i => if S m = true ∧ touches (recAt hs lgs m) i = true then (hs (m + 1))[i]? else cont hs lgs S m i

theorem cur_below {S : Nat → Bool} {t : Tmp} : ∀ {m : Nat}, (∀ j, j < m → StepAt P C call nt ops σs hs vs lgs j) → (∀ k, k < m → dstAt ops k = some t → S k = true) → cur ops σs vs S m t = σs m t
  | 0, _, _ => rfl
  | m + 1, hst, hb => by
    obtain ⟨o, q1, q2, q3, q4⟩ := (hst m (by omega)).ex
    have hd : dstAt ops m = o.dst := by simp [dstAt, q1]
    unfold cur
    rw [q3, upd_eq]
    by_cases h : o.dst = some t
    · rw [if_pos ⟨hb m (by omega) (by rw [hd]; exact h), by rw [hd]; exact h⟩, if_pos h]
    · rw [if_neg (by rw [hd]; exact fun e => h e.2), if_neg h]
      exact cur_below (fun j hj => hst j (by omega)) (fun k hk => hb k (by omega))
theorem cur_above {S : Nat → Bool} {t : Tmp} {m : Nat} : ∀ {n : Nat}, m ≤ n → (∀ k, m ≤ k → k < n → dstAt ops k = some t → S k = false) → cur ops σs vs S n t = cur ops σs vs S m t
  | n, hmn, hb => by
    by_cases h : m = n
    · subst h; rfl
    · cases n with
      | zero => omega
      | succ n =>
        rw [show cur ops σs vs S (n + 1) t = if S n = true ∧ dstAt ops n = some t then vs n else cur ops σs vs S n t from rfl, if_neg]
        · exact cur_above (by omega) (fun k h1 h2 => hb k h1 (by omega))
        · rintro ⟨h1, h2⟩
          rw [hb n (by omega) (by omega) h2] at h1
          cases h1
theorem cur_congr {S S' : Nat → Bool} {t : Tmp} : ∀ {m : Nat}, (∀ k, k < m → dstAt ops k = some t → S k = S' k) → cur ops σs vs S m t = cur ops σs vs S' m t
  | 0, _ => rfl
  | m + 1, h => by
    have ih := cur_congr (m := m) (fun k hk => h k (by omega))
    unfold cur
    rw [ih]
    by_cases hd : dstAt ops m = some t
    · rw [h m (by omega) hd]
    · rw [if_neg (fun e => hd e.2), if_neg (fun e => hd e.2)]

theorem hs_frame (hfr : CFrame call) {j : Nat} (hst : StepAt P C call nt ops σs hs vs lgs j) : FR (hs j) (lgs j) (hs (j + 1)) := by
  obtain ⟨o, q1, q2, q3, ⟨_, q4⟩ | ⟨_, _, q4, _⟩⟩ := hst.ex
  · exact gop_frame hfr q4
  · rw [q4]; exact FR.same _ _

theorem hs_mono (hfr : CFrame call) {n : Nat} (hst : ∀ j, j < n → StepAt P C call nt ops σs hs vs lgs j) {j : Nat} : ∀ {k : Nat}, j ≤ k → k ≤ n → (hs j).length ≤ (hs k).length
  | k, hjk, hk => by
    by_cases h : j = k
    · subst h; exact Nat.le_refl _
    · cases k with
      | zero => omega
      | succ k => exact Nat.le_trans (hs_mono hfr hst (by omega) (by omega)) (hs_frame hfr (hst k (by omega))).len

theorem touches_iff {j i : Nat} : touches (recAt hs lgs j) i = true ↔ i ∈ (lgs j).w ∨ ((hs j).length ≤ i ∧ i < (hs (j + 1)).length) := by
  simp [touches, recAt]

theorem untouched (hfr : CFrame call) {j i : Nat} (hst : StepAt P C call nt ops σs hs vs lgs j) (h : touches (recAt hs lgs j) i = false) : (hs (j + 1))[i]? = (hs j)[i]? := by
  have hf := hs_frame hfr hst
  have h' : ¬ (i ∈ (lgs j).w ∨ ((hs j).length ≤ i ∧ i < (hs (j + 1)).length)) := by
    rw [← touches_iff, h]; simp
  by_cases hi : i < (hs j).length
  · exact hf.keep i hi (fun e => h' (.inl e))
  · have h2 : (hs (j + 1)).length ≤ i := by
      rcases Nat.lt_or_ge i (hs (j + 1)).length with h1 | h1
      · exact absurd (.inr ⟨by omega, h1⟩) h'
      · exact h1
    rw [List.getElem?_eq_none h2, List.getElem?_eq_none (by omega : (hs j).length ≤ i)]

theorem cont_below (hfr : CFrame call) {S : Nat → Bool} {i : Nat} : ∀ {m : Nat}, (∀ j, j < m → StepAt P C call nt ops σs hs vs lgs j) → (∀ k, k < m → touches (recAt hs lgs k) i = true → S k = true) → cont hs lgs S m i = (hs m)[i]?
  | 0, _, _ => rfl
  | m + 1, hst, hb => by
    unfold cont
    cases ht : touches (recAt hs lgs m) i with
    | true => rw [if_pos ⟨hb m (by omega) ht, rfl⟩]
    | false =>
      rw [if_neg (by simp), untouched hfr (hst m (by omega)) ht]
      exact cont_below hfr (fun j hj => hst j (by omega)) (fun k hk => hb k (by omega))
theorem cont_above {S : Nat → Bool} {i m : Nat} : ∀ {n : Nat}, m ≤ n → (∀ k, m ≤ k → k < n → touches (recAt hs lgs k) i = true → S k = false) → cont hs lgs S n i = cont hs lgs S m i
  | n, hmn, hb => by
    by_cases h : m = n
    · subst h; rfl
    · cases n with
      | zero => omega
      | succ n =>
        rw [show cont hs lgs S (n + 1) i = if S n = true ∧ touches (recAt hs lgs n) i = true then (hs (n + 1))[i]? else cont hs lgs S n i from rfl, if_neg]
        · exact cont_above (by omega) (fun k h1 h2 => hb k h1 (by omega))
        · rintro ⟨h1, h2⟩
          rw [hb n (by omega) (by omega) h2] at h1
          cases h1
theorem cont_congr {S S' : Nat → Bool} {i : Nat} : ∀ {m : Nat}, (∀ k, k < m → touches (recAt hs lgs k) i = true → S k = S' k) → cont hs lgs S m i = cont hs lgs S' m i
  | 0, _ => rfl
  | m + 1, h => by
    have ih := cont_congr (m := m) (fun k hk => h k (by omega))
    unfold cont
    rw [ih]
    cases hd : touches (recAt hs lgs m) i with
    | true => rw [h m (by omega) hd]
    | false => simp

/-- How many are left. -/
def unl (S : Nat → Bool) : Nat → Nat
  | 0 => 0
  | m + 1 => unl S m + (if S m = true then 0 else 1)
theorem unl_zero {S : Nat → Bool} : ∀ {m : Nat}, unl S m = 0 → ∀ k, k < m → S k = true
  | 0, _, k, hk => by omega
  | m + 1, h, k, hk => by
    unfold unl at h
    by_cases hkm : k = m
    · subst hkm
      by_cases hs : S k = true
      · exact hs
      · rw [if_neg hs] at h; omega
    · exact unl_zero (m := m) (by omega) k (by omega)
theorem unl_same {S S' : Nat → Bool} : ∀ {m : Nat}, (∀ k, k < m → S k = S' k) → unl S m = unl S' m
  | 0, _ => rfl
  | m + 1, h => by
    unfold unl
    rw [unl_same (m := m) (fun k hk => h k (by omega)), h m (by omega)]
theorem unl_set {S S' : Nat → Bool} {j : Nat} (hj : S j = false) (hj' : S' j = true) (ho : ∀ k, k ≠ j → S k = S' k) : ∀ {m : Nat}, j < m → unl S m = unl S' m + 1
  | 0, h => by omega
  | m + 1, h => by
    unfold unl
    by_cases hjm : j = m
    · subst hjm
      rw [hj, hj', unl_same (m := j) (fun k hk => ho k (by omega))]
      simp
    · rw [unl_set hj hj' ho (m := m) (by omega), ho m (by omega)]
      omega
end

/-- HB, At, of a content. -/
def HBc (w : World) (ρ : Map) (Pp Pt : Nat → Prop) (c : Option (List GV)) (i : Nat) : Prop :=
  ∀ cs, c = some cs → (∃ loc, ρ i cs.length = some loc ∧ BR w ρ Pp Pt cs loc ∧ ¬ Pp loc.1 ∧ ¬ Pt loc.1) ∧ ∀ m, cs.length < m → ρ i m = none
def Atc (ρ : Map) (c : Option (List GV)) (i : Nat) (k : Nat) : Prop := ∃ cs loc, c = some cs ∧ ρ i cs.length = some loc ∧ loc.1 = k

theorem HBc_iff {w : World} {ρ : Map} {Pp Pt : Nat → Prop} {h : Heap} {i : Nat} : HB w ρ Pp Pt h i ↔ HBc w ρ Pp Pt h[i]? i := Iff.rfl
theorem Atc_iff {ρ : Map} {h : Heap} {i k : Nat} : At ρ h i k ↔ Atc ρ h[i]? i k := Iff.rfl
theorem Atc.lt {w : World} {ρ : Map} {Pp Pt : Nat → Prop} {c : Option (List GV)} {i k : Nat} (hb : HBc w ρ Pp Pt c i) (ha : Atc ρ c i k) : k < w.heap.size ∧ ¬ Pp k ∧ ¬ Pt k := by
  obtain ⟨cs, loc, h1, h2, rfl⟩ := ha
  obtain ⟨⟨loc', h3, ⟨rc, ty, lo, hi, h4, _⟩, h5, h6⟩, _⟩ := hb cs h1
  rw [h2] at h3
  cases h3
  exact ⟨(Array.getElem?_eq_some_iff.1 h4).1, h5, h6⟩

/-- Between operations: S has been done. w0, ρ0, P0: at the beginning; L: all that is read and written. -/
structure Inv (ops : Array Oper) (σs : Nat → GS) (hs : Nat → Heap) (vs : Nat → GV) (lgs : Nat → Lg) (n nt : Nat) (F : Nat → Prop) (L : Lg) (Pt : Nat → Prop) (w0 : World) (ρ0 : Map) (P0 : Nat → Prop)
    (S : Nat → Bool) (a : Act) (w : World) (ρ : Map) (Pp : Nat → Prop) : Prop where
  size : a.tmps.size = nt
  defers : a.defers = []
  val : ∀ t, VR w ρ Pp (cur ops σs vs S n t) Pt (a.tmps.getD t undef)
  lt : ∀ c, Pp c ∨ Pt c → c < w.heap.size
  gl : GL w Pp
  hb : ∀ i, F i → HBc w ρ Pp Pt (cont hs lgs S n i) i
  inj : ∀ i j c, F i → F j → i ≠ j → Atc ρ (cont hs lgs S n i) i c → ¬ Atc ρ (cont hs lgs S n j) j c
  nw : ∀ k i m, k < n → S k = false → (hs k).length ≤ i → i < (hs (k + 1)).length → ρ i m = none
  os : w.os = w0.os
  tape : w.tape = w0.tape
  output : w.output = w0.output
  wsize : w0.heap.size ≤ w.heap.size
  keep : Keep w0 ρ0 P0 w ρ Pp
  kept : ∀ c, c < w0.heap.size → (∀ i, i ∈ L.w → ¬ At ρ0 (hs 0) i c) → w.heap[c]? = w0.heap[c]?
  ppnew : ∀ c, Pp c → P0 c ∨ (w0.heap.size ≤ c ∧ c < w.heap.size)
  rhoold : ∀ i m, (i < (hs 0).length ∧ i ∉ L.w) ∨ (hs n).length ≤ i → ρ i m = ρ0 i m
  fresh : ∀ i c, (i ∈ L.w ∨ ((hs 0).length ≤ i ∧ i < (hs n).length)) → Atc ρ (cont hs lgs S n i) i c → (w0.heap.size ≤ c ∧ c < w.heap.size) ∨ At ρ0 (hs 0) i c

end Go.Proofs.Ytolhjndfplfjpaa.G
