/- Laws that mark what is handed back: what stays as it was. -/
import Derived.Test.YtopmnigfklgnkaaTM
namespace Go.Proofs.Ytopmnigfklgnkaa.G
open Go.RowKit
set_option linter.unusedVariables false
set_option linter.unusedSimpArgs false

theorem Fr.blk {R : List Nat} {H H' : Heap} (f : Fr R H H') {p : Nat} {c : List GV} (h : H[p]? = some c) (hn : p ∉ R) : H'[p]? = some c := (f.2 p (List.getElem?_eq_some_iff.1 h).1 hn).trans h
/-- Where blocks lie. -/
def Bd (R : List Nat) (a b : Nat) : Prop := ∀ i ∈ R, a ≤ i ∧ i < b
theorem Bd.no {R : List Nat} {a b p : Nat} (h : Bd R a b) (hp : p < a ∨ b ≤ p) : p ∉ R := fun hi => by have := h p hi; omega
theorem Bd.apart {R R' : List Nat} {a b a' b' : Nat} (h : Bd R a b) (h' : Bd R' a' b') (hp : b ≤ a' ∨ b' ≤ a) : ∀ i ∈ R, i ∉ R' := fun i hi hi' => by have := h i hi; have := h' i hi'; omega
theorem no_nil {p : Nat} : p ∉ ([] : List Nat) := List.not_mem_nil
theorem kalloc_at {Q : Type} {z : List GV} {H : Heap} {K : GV → Heap → Option Q} : kalloc z H K = K (.ptr H.length 0 z.length) (H ++ [z]) := rfl
theorem kloadA_at {H : Heap} {p n : Nat} {c : List GV} (h : H[p]? = some c) (hl : c.length = n) : kloadA n H (.ptr p 0 n) = some (.agg c) := by
  rw [kloadA_ptr, cellsAt_if, h]
  simp [hl]
  rw [List.take_of_length_le (by omega)]
theorem kstoreA_at {H : Heap} {p n : Nat} {c c' : List GV} (h : H[p]? = some c) (hl : c.length = n) (hl' : c'.length = n) (hc : c'.all GV.isCell = true) : kstore n H (.ptr p 0 n) (.agg c') = some (H.set p c') := by
  rw [kstore_ptr, cells_agg, if_pos ⟨hl', hc⟩, cellsAt_if, h]
  simp only [Option.bind_some, hl, if_true]
  rw [if_pos (by omega)]
  simp only [splice, List.take_zero, List.nil_append, Nat.zero_add, hl']
  rw [List.drop_of_length_le (by omega), List.append_nil]
/-- A local variable that is made and filled. -/
theorem var_at {H : Heap} {z c : List GV} {n : Nat} (hz : z.length = n) (hl : c.length = n) (hc : c.all GV.isCell = true) : kstore n (H ++ [z]) (.ptr H.length 0 n) (.agg c) = some (H ++ [c]) := by
  rw [kstoreA_at (c := z) (by simp) hz hl hc]
  simp
theorem fresh_agg {α : Type} {es d : Nat} {mk : α → List GV} {E : Rel α} (hE : Good es d mk E) {f : FuncId} {args xs : List GV} {H : Heap} {x : α} (hb : bors H args = some xs) (he : ∃ c bl, OO f xs H.length = some (.agg c, bl) ∧ ∀ H' T, H'.length = H.length → E (H' ++ bl ++ T) c x (List.range' H.length bl.length)) :
    ∃ c R H', kF false HH f args H = some (.agg c, H') ∧ E H' c x R ∧ R.Nodup ∧ Bd R H.length H'.length ∧ Fr [] H H' ∧ H.length ≤ H'.length := by
  obtain ⟨c, bl, h1, h2⟩ := he
  refine ⟨c, _, H ++ bl, by rw [kF_OO, hb]; simp [h1], by simpa using h2 H [] rfl, List.nodup_range', fun i hi => ?_, .app, by simp⟩
  rw [List.mem_range'_1] at hi
  simp; omega
theorem fresh_one {α : Type} {d : Nat} {mk : α → List GV} {E : Rel α} (hE : Good 1 d mk E) {f : FuncId} {args xs : List GV} {H : Heap} {x : α} (hb : bors H args = some xs) (he : ∃ v bl, OO f xs H.length = some (v, bl) ∧ ∀ H' T, H'.length = H.length → E (H' ++ bl ++ T) [v] x (List.range' H.length bl.length)) :
    ∃ v R H', kF false HH f args H = some (v, H') ∧ E H' [v] x R ∧ R.Nodup ∧ Bd R H.length H'.length ∧ Fr [] H H' ∧ H.length ≤ H'.length := by
  obtain ⟨c, bl, h1, h2⟩ := he
  refine ⟨c, _, H ++ bl, by rw [kF_OO, hb]; simp [h1], by simpa using h2 H [] rfl, List.nodup_range', fun i hi => ?_, .app, by simp⟩
  rw [List.mem_range'_1] at hi
  simp; omega
theorem fresh_tup {α : Type} {es d : Nat} {mk : α → List GV} {E : Rel α} (hE : Good es d mk E) {f : FuncId} {args xs : List GV} {H : Heap} {x : α} {t : Bool} (hb : bors H args = some xs) (he : ∃ c bl, OO f xs H.length = some (.tup [.agg c, .bool t], bl) ∧ ∀ H' T, H'.length = H.length → E (H' ++ bl ++ T) c x (List.range' H.length bl.length)) :
    ∃ c R H', kF false HH f args H = some (.tup [.agg c, .bool t], H') ∧ E H' c x R ∧ R.Nodup ∧ Bd R H.length H'.length ∧ Fr [] H H' ∧ H.length ≤ H'.length := by
  obtain ⟨c, bl, h1, h2⟩ := he
  refine ⟨c, _, H ++ bl, by rw [kF_OO, hb]; simp [h1], by simpa using h2 H [] rfl, List.nodup_range', fun i hi => ?_, .app, by simp⟩
  rw [List.mem_range'_1] at hi
  simp; omega
/-- A call with data out of memory. -/
theorem bors_agg {α : Type} {es d : Nat} {mk : α → List GV} {E : Rel α} (hE : Good es d mk E) (hd : d ≤ 8) {H : Heap} {c : List GV} {x : α} {R : List Nat} (he : E H c x R) {gs xs : List GV} (h : bors H gs = some xs) : bors H (.agg c :: gs) = some (.agg (mk x) :: xs) := by
  rw [bors_cons, hE.lendS hd he, h]; rfl
theorem bors_one {α : Type} {es d : Nat} {mk : α → List GV} {E : Rel α} (hE : Good es d mk E) (hd : d + 1 ≤ 9) {H : Heap} {v : GV} {x : List α} {R : List Nat} (he : RSl es E H [v] x R) {gs xs : List GV} (h : bors H gs = some xs) : bors H (v :: gs) = some (fzl true es mk x :: xs) := by
  obtain ⟨g, h1, h2⟩ := (RSl.good hE).lend1 hd he
  injection h2 with h2
  rw [bors_cons, h1, h, ← h2]; rfl
theorem kN_at {f : FuncId} {args xs : List GV} {H : Heap} {v : GV} (hb : bors H args = some xs) (h : NN f xs = some v) : kN NN f args H = some v := by rw [kN_eq, hb]; exact h
/-- A slice of a slice that is told. -/
theorem ksl_fzl {α : Type} {es : Nat} {t : Bool} {mk : α → List GV} (hm : ∀ a, (mk a).length = es) {xs : List α} {n : Int} (h0 : 0 ≤ n) (h1 : n ≤ xs.length) : ksl es (fzl t es mk xs) none (some (.int .i64 n)) none = some (fzl t es mk (xs.take n.toNat)) := by
  cases xs with
  | nil =>
    have : n = 0 := by simp at h1; omega
    subst this
    simp [fzl, mt, ksl, kslice, gslice, gopt, gint]
  | cons x xs =>
    have hl := len_flat hm (x :: xs)
    by_cases hn : n = 0
    · subst hn
      have q : (0 : Int) ≤ (xs.length : Int) + 1 := by omega
      simp [fzl, mt, ksl, kslice, gslice, gopt, gint, q]
    · have e : ((x :: xs).take n.toNat).length = n.toNat := by rw [List.length_take]; omega
      have hne : 0 < ((x :: xs).take n.toNat).length := by omega
      rw [fzl_ne hne, e]
      have h2 : n ≤ (xs.length : Int) + 1 := by simpa using h1
      have h3 : ((x :: xs).flatMap mk).take (n.toNat * es) = ((x :: xs).take n.toNat).flatMap mk := by
        have := len_flat hm ((x :: xs).take n.toNat)
        rw [e] at this
        conv => lhs; rw [← List.take_append_drop n.toNat (x :: xs), List.flatMap_append]
        rw [← this, List.take_left]
      have h3' : (mk x ++ xs.flatMap mk).take (n.toNat * es) = ((x :: xs).take n.toNat).flatMap mk := h3
      simp [fzl, ksl, kslice, gslice, gopt, gint, h0, h2, hn, h3']
end Go.Proofs.Ytopmnigfklgnkaa.G
