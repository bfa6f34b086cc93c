/- The operations one by one: what this machine does, the other one does too. -/
import Derived.Test.YtolhjndfplfjpaaG3
namespace Go.Proofs.Ytolhjndfplfjpaa.G
open Go.RowKit
set_option linter.unusedVariables false
set_option linter.unusedSimpArgs false

section
variable {P : Program} {Pt Pp : Nat → Prop} {w : World} {ρ : Map} {h : Heap}

theorem run_underlying {t : TypeId} {d : TypeDesc} (e : P.underlying t = some d) (w : World) : (underlying t).run P w = .ok d w := by
  simp [underlying, e]
theorem run_typeInfo {t : TypeId} {d : TypeInfo} (e : P.info? t = some d) (w : World) : (typeInfo t).run P w = .ok d w := by
  simp [typeInfo, e]
theorem run_sizeOf {t : TypeId} {n : Nat} (e : gsize P t = some n) (w : World) : (sizeOf t).run P w = .ok n w := by
  unfold gsize at e
  obtain ⟨i, h1, rfl⟩ := Option.map_eq_some_iff.1 e
  simp [sizeOf, run_typeInfo h1]
theorem run_isAgg {t : TypeId} {b : Bool} (e : gagg P t = some b) (w : World) : (isAgg t).run P w = .ok b w := by
  unfold gagg at e
  unfold isAgg
  cases hu : P.underlying t with
  | none => rw [hu] at e; cases e
  | some d =>
    rw [hu] at e
    rw [Sem.run_bind, run_underlying hu]
    cases d <;> simp at e ⊢ <;> exact e
theorem run_zero {t : TypeId} {z : List GV} (e : gzero P t = some z) (w : World) : ∃ v : Value, (zeroValue t).run P w = .ok v w ∧ ∃ g, ofV v = some g ∧ g.cells = z := by
  unfold gzero at e
  simp only [Option.bind_eq_bind, Option.bind_eq_some_iff, Option.some.injEq] at e
  obtain ⟨i, h1, v, h2, g, h3, rfl⟩ := e
  exact ⟨v, by simp [zeroValue, run_typeInfo h1, h2], g, h3, rfl⟩

theorem cellsAt_eq {i tot : Nat} {cs : List GV} (e : cellsAt h i tot = some cs) : h[i]? = some cs ∧ cs.length = tot := by
  unfold cellsAt at e
  split at e
  · rename_i cs' h1
    cases hb : Nat.beq cs'.length tot with
    | false => rw [hb] at e; cases e
    | true => rw [hb] at e; cases e; exact ⟨h1, Nat.eq_of_beq_eq_true hb⟩
  · cases e

theorem cells_at {i tot c sh : Nat} {cs : List GV} (e : cellsAt h i tot = some cs) (hb : HB w ρ Pp Pt h i) (hr : ρ i tot = some (c, sh)) : BR w ρ Pp Pt cs (c, sh) ∧ ¬ Pp c ∧ ¬ Pt c := by
  obtain ⟨h1, h2⟩ := cellsAt_eq e
  obtain ⟨⟨loc, h3, h4, h5, h6⟩, _⟩ := hb cs h1
  rw [h2, hr] at h3
  cases h3
  exact ⟨h4, h5, h6⟩

theorem BR_cells {cs : List GV} {c sh : Nat} (b : BR w ρ Pp Pt cs (c, sh)) (off n : Nat) (hn : off + n ≤ cs.length) :
    ∃ us : List Value, VRs w ρ Pp ((cs.drop off).take n) Pt us ∧ ∀ (j : Nat) (u : Value), us[j]? = some u → w.cell? ((⟨c, sh + off, none⟩ : Addr).add j) = some u := by
  obtain ⟨rc, ty, lo, hi, h1, h2, h3, h4⟩ := b
  refine ⟨(List.range n).map fun j => (rc[sh + (off + j)]?).getD undef, VRs_of (by simp; omega) fun j g u e1 e2 => ?_, fun j u e => ?_⟩
  · rw [List.getElem?_take] at e1
    split at e1
    · rw [List.getElem?_drop] at e1
      obtain ⟨u', h5, h6⟩ := h4 (off + j) g e1
      rw [List.getElem?_map, List.getElem?_range (by omega)] at e2
      simp only [Option.map_some, Option.some.injEq] at e2
      rw [h5] at e2
      simp only [Option.getD_some] at e2
      rw [← e2]; exact h6
    · cases e1
  · have hj : j < n := by
      have := (List.getElem?_eq_some_iff.1 e).1
      simpa using this
    rw [List.getElem?_map, List.getElem?_range hj] at e
    simp only [Option.map_some, Option.some.injEq] at e
    rw [RowAdd c (sh + off) j]
    rw [cell_of_row w c _ rc ty (lo, hi) h1]
    have : sh + off + j < rc.size := by omega
    rw [show sh + (off + j) = sh + off + j by omega] at e
    rw [Array.getElem?_eq_getElem this] at e ⊢
    simpa using e
where RowAdd (c o j : Nat) : (⟨c, o, none⟩ : Addr).add j = ⟨c, o + j, none⟩ := by unfold Addr.add; split <;> simp_all

theorem addr_add (c o j : Nat) : (⟨c, o, none⟩ : Addr).add j = ⟨c, o + j, none⟩ := by unfold Addr.add; split <;> simp_all

/-- Cells that are read here are read there. -/
theorem gread_run {a : GV} {n : Nat} {cs : List GV} {r : List Nat} {v : Value} (e : gread h a n = some (cs, r)) (hv : VR w ρ Pp a Pt v) (hb : ∀ i, i ∈ r → HB w ρ Pp Pt h i) :
    ∃ A us, v = .pointer (some A) ∧ VRs w ρ Pp cs Pt us ∧ cs.length = n ∧ ∀ (j : Nat) (u : Value), us[j]? = some u → w.cell? (A.add j) = some u := by
  unfold gread at e
  split at e
  · rename_i i off tot
    simp only [Option.bind_eq_bind, Option.bind_eq_some_iff] at e
    obtain ⟨cs0, h1, h2⟩ := e
    split at h2
    · rename_i hn
      cases h2
      obtain ⟨c, sh, h3, rfl⟩ := hv
      obtain ⟨us, h4, h5⟩ := BR_cells (cells_at h1 (hb i (by simp)) h3).1 off n hn
      exact ⟨_, us, rfl, h4, by simp; omega, h5⟩
    · cases h2
  · rename_i t cells
    split at e
    · rename_i hn
      cases e
      obtain ⟨A, rfl, h2⟩ := hv
      by_cases hc : cells = []
      · subst hc
        exact ⟨A, [], rfl, by simp [VRs, VRsi], by simp at hn ⊢; omega, fun j u hj => by simp at hj⟩
      · obtain ⟨h3, us, h4, h5⟩ := h2 hc
        refine ⟨A, us.take n, rfl, ?_, by simp; omega, fun j u hj => ?_⟩
        · have h6 := VRs_take n h4
          refine VRs_mono ((Keep.refl w ρ Pp).e0 ρ) _ _ _ _ (fun c hc => ?_) (fun c _ => rfl) h6
          by_cases e : t = true <;> simp [e] at hc <;> simp [hc]
        · rw [List.getElem?_take] at hj
          split at hj
          · exact h5 j u hj
          · cases hj
    · cases e
  · cases e
end

end Go.Proofs.Ytolhjndfplfjpaa.G
