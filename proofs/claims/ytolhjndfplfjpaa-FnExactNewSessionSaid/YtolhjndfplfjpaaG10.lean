/- A block is put, a block is written. -/
import Derived.Test.YtolhjndfplfjpaaG9
import Derived.Laws.Tables
namespace Go.Proofs.Ytolhjndfplfjpaa.G
open Go.RowKit
set_option linter.unusedVariables false
set_option linter.unusedSimpArgs false

/-- Where block i with n cells is put. -/
def Map.put (ρ : Map) (i n : Nat) (loc : Nat × Nat) : Map := fun j m => if j = i ∧ m = n then some loc else ρ j m

section
variable {P : Program} {Pt Pp : Nat → Prop} {w : World} {ρ : Map} {h : Heap} {a : Act} {o : Oper} {σ : GS} {C : Cfg} {call : GCall} {F : Nat → Prop} {N : Nat}

theorem put_same {i n : Nat} {loc : Nat × Nat} : (ρ.put i n loc) i n = some loc := by simp [Map.put]
theorem put_other {i n j m : Nat} {loc : Nat × Nat} (hne : ¬(j = i ∧ m = n)) : (ρ.put i n loc) j m = ρ j m := by simp [Map.put, hne]

theorem push_old {w w' : World} {ob : Obj} (hheap : w'.heap = w.heap.push ob) {c : Nat} (hc : c < w.heap.size) : w'.heap[c]? = w.heap[c]? := by
  rw [hheap, Array.getElem?_push, if_neg (by omega)]

theorem Step.place (p : Pre Pt w ρ Pp h F N) {i : Nat} {h' : Heap} {cs : List GV} {lg : Lg} {w' : World} {rc : Array Value} {ty : TypeId} {lo hi : Nat}
    (hcs : h'[i]? = some cs) (hoth : ∀ k, k ≠ i → h'[k]? = h[k]?)
    (hi' : (i = h.length ∧ h'.length = h.length + 1 ∧ lg.w = []) ∨ (i < h.length ∧ h'.length = h.length ∧ lg.w = [i]))
    (hnone : ∀ m, cs.length ≤ m → ρ i m = Option.none)
    (hos : w'.os = w.os) (htape : w'.tape = w.tape) (hout : w'.output = w.output) (hheap : w'.heap = w.heap.push (.cells rc ty (lo, hi)))
    (hrc : cs.length ≤ rc.size) (hfr : ∀ o, o < rc.size → ¬(lo ≤ o ∧ o < hi))
    (hv : ∀ (j : Nat) (g : GV), cs[j]? = some g → ∃ u, rc[j]? = some u ∧ VR w ρ Pp g Pt u) :
    Step Pt w ρ Pp h lg w' (ρ.put i cs.length (w.heap.size, 0)) Pp h' := by
  have hsz : w'.heap.size = w.heap.size + 1 := by rw [hheap]; simp
  have hnew : w'.heap[w.heap.size]? = some (.cells rc ty (lo, hi)) := by rw [hheap]; simp
  have hk : Keep w ρ Pp w' (ρ.put i cs.length (w.heap.size, 0)) Pp := by
    refine ⟨fun c R hc => ?_, fun j n loc hj => ?_, fun _ hc => hc⟩
    · have hlt : c < w.heap.size := by
        unfold rsz at hc
        split at hc
        · rename_i he; exact (Array.getElem?_eq_some_iff.1 he).1
        · cases hc
      unfold rsz at hc ⊢
      rw [push_old hheap hlt]
      exact hc
    · rw [put_other]
      · exact hj
      · rintro ⟨rfl, rfl⟩
        rw [hnone _ (Nat.le_refl _)] at hj
        cases hj
  have mem : ∀ k, (k ∈ lg.w ∨ h.length ≤ k ∧ k < h'.length) → k = i := by
    intro k hk
    rcases hi' with ⟨h1, h2, h3⟩ | ⟨h1, h2, h3⟩
    · rw [h3] at hk
      rcases hk with hk | hk
      · cases hk
      · omega
    · rw [h3] at hk
      rcases hk with hk | hk
      · simpa using hk
      · omega
  have notmem : ∀ k, k < h.length → k ∉ lg.w → k ≠ i := by
    intro k h1 h2 e
    subst e
    rcases hi' with ⟨h3, _⟩ | ⟨_, _, h3⟩
    · omega
    · exact h2 (by simp [h3])
  have atc : ∀ c, At (ρ.put i cs.length (w.heap.size, 0)) h' i c → c = w.heap.size := by
    rintro c ⟨cs', loc, h1, h2, rfl⟩
    rw [hcs] at h1
    cases h1
    rw [put_same] at h2
    cases h2
    rfl
  refine ⟨hos, htape, hout, by omega, hk, fun c hc _ => push_old hheap hc, fun c hc => .inl hc, fun k n hn => ?_, ?_, fun k h1 h2 => hoth k (notmem k h1 h2), fun k hk' => ?_, fun k c hk' ha => ?_, fun k j c h1 h2 hne => ?_⟩
  · refine put_other ?_
    rintro ⟨rfl, rfl⟩
    rcases hn with ⟨h1, h2⟩ | h1
    · exact notmem k h1 h2 rfl
    · rcases hi' with ⟨h3, h4, _⟩ | ⟨h3, h4, _⟩ <;> omega
  · rcases hi' with ⟨h3, h4, _⟩ | ⟨h3, h4, _⟩ <;> omega
  · have := mem k hk'
    subst this
    intro cs' hcs'
    rw [hcs] at hcs'
    cases hcs'
    refine ⟨⟨_, put_same, ⟨rc, ty, lo, hi, hnew, by simpa using hrc, hfr, fun j g hg => ?_⟩, fun hp => ?_, fun hp => ?_⟩, fun m hm => ?_⟩
    · obtain ⟨u, h1, h2⟩ := hv j g hg
      refine ⟨u, by simpa using h1, VR_mono hk g Pt Pt u (fun _ h => .inl h) (fun c hc => ?_) h2⟩
      exact push_old hheap (p.lt c hc)
    · have := p.lt _ (.inl hp)
      simp at this
    · have := p.lt _ (.inr hp)
      simp at this
    · rw [put_other (by rintro ⟨_, h2⟩; omega)]
      exact hnone m (by omega)
  · have := mem k hk'
    subst this
    rw [atc c ha]
    exact .inl ⟨Nat.le_refl _, by omega⟩
  · exact absurd ((mem k h1.symm).trans (mem j h2.symm).symm) hne

theorem Step.write (p : Pre Pt w ρ Pp h F N) {i c sh : Nat} {cs cs' : List GV} {r : List Nat} {w' : World} {rc rc' : Array Value} {ty : TypeId} {lo hi : Nat} (hF : F i)
    (hcs : h[i]? = some cs) (hρ : ρ i cs.length = some (c, sh)) (hlen : cs.length ≤ cs'.length)
    (hos : w'.os = w.os) (htape : w'.tape = w.tape) (hout : w'.output = w.output) (hsz : w'.heap.size = w.heap.size) (hold : w.heap[c]? = some (.cells rc ty (lo, hi)))
    (hat : w'.heap[c]? = some (.cells rc' ty (lo, hi))) (hoth : ∀ k, k ≠ c → w'.heap[k]? = w.heap[k]?)
    (hrc : rc'.size = rc.size) (hfit : sh + cs'.length ≤ rc.size)
    (hv : ∀ (j : Nat) (g : GV), cs'[j]? = some g → ∃ u, rc'[sh + j]? = some u ∧ VR w ρ Pp g Pt u) :
    Step Pt w ρ Pp h ⟨r, [i]⟩ w' (ρ.put i cs'.length (c, sh)) Pp (h.set i cs') := by
  have hilt : i < h.length := (List.getElem?_eq_some_iff.1 hcs).1
  obtain ⟨⟨loc, h1, ⟨rc0, ty0, lo0, hi0, h2, h3, h4, h5⟩, h6, h7⟩, h8⟩ := p.hb i hF cs hcs
  rw [hρ] at h1
  cases h1
  dsimp only at h2 h6 h7
  rw [hold] at h2
  cases h2
  have hk : Keep w ρ Pp w' (ρ.put i cs'.length (c, sh)) Pp := by
    refine ⟨fun k R hc => ?_, fun j n loc hj => ?_, fun _ hc => hc⟩
    · unfold rsz at hc ⊢
      by_cases hkc : k = c
      · subst hkc
        rw [hold] at hc
        rw [hat]
        simp only [Option.some.injEq] at hc ⊢
        omega
      · rw [hoth k hkc]
        exact hc
    · by_cases he : j = i ∧ n = cs'.length
      · obtain ⟨rfl, rfl⟩ := he
        rw [put_same]
        by_cases hl : cs'.length = cs.length
        · rw [hl, hρ] at hj
          exact hj
        · rw [h8 _ (by omega)] at hj
          cases hj
      · rw [put_other he]
        exact hj
  have stays : ∀ k, Pp k ∨ Pt k → w'.heap[k]? = w.heap[k]? := by
    intro k hpp
    refine hoth k fun e => ?_
    rw [e] at hpp
    rcases hpp with hpp | hpp
    · exact h6 hpp
    · exact h7 hpp
  have hset : (h.set i cs')[i]? = some cs' := by simp [hilt]
  have mem : ∀ k, (k ∈ [i] ∨ h.length ≤ k ∧ k < (h.set i cs').length) → k = i := by
    intro k hk
    rcases hk with hk | hk
    · simpa using hk
    · simp at hk; omega
  have atc : ∀ k, At (ρ.put i cs'.length (c, sh)) (h.set i cs') i k → k = c := by
    rintro k ⟨cs2, loc, e1, e2, rfl⟩
    rw [hset] at e1
    cases e1
    rw [put_same] at e2
    cases e2
    rfl
  refine ⟨hos, htape, hout, by omega, hk, fun k _ hk' => hoth k ?_, fun k hk' => .inl hk', fun k n hn => ?_, by simp, fun k _ e2 => ?_, fun k hk' => ?_, fun k k' hk' ha => ?_, fun k j k' e1 e2 hne => ?_⟩
  · rintro rfl
    exact hk' i (by simp) ⟨cs, _, hcs, hρ, rfl⟩
  · refine put_other ?_
    rintro ⟨rfl, rfl⟩
    rcases hn with ⟨_, e2⟩ | e1
    · exact e2 (by simp)
    · simp at e1; omega
  · rw [List.getElem?_set_ne (by rintro rfl; exact e2 (by simp))]
  · have := mem k hk'
    subst this
    intro cs2 hcs2
    rw [hset] at hcs2
    cases hcs2
    refine ⟨⟨_, put_same, ⟨rc', ty, lo, hi, hat, by simpa [hrc] using hfit, fun o ho => h4 o (by omega), fun j g hg => ?_⟩, h6, h7⟩, fun m hm => ?_⟩
    · obtain ⟨u, e1, e2⟩ := hv j g hg
      exact ⟨u, e1, VR_mono hk g Pt Pt u (fun _ h => .inl h) stays e2⟩
    · rw [put_other (by rintro ⟨_, h2⟩; omega)]
      exact h8 m (by omega)
  · have := mem k hk'
    subst this
    rw [atc k' ha]
    exact .inr ⟨cs, _, hcs, hρ, rfl⟩
  · exact absurd ((mem k e1.symm).trans (mem j e2.symm).symm) hne

/-- Cells written one by one. -/
theorem run_storeRow {c o : Nat} {ty : TypeId} {lo hi : Nat} : ∀ (vs : List Value) (i : Nat) (cur : Array Value) (w : World), w.heap[c]? = some (.cells cur ty (lo, hi)) → o + i + vs.length ≤ cur.size → (∀ v ∈ vs, v.oneCell' = true) →
    (∀ k, k < cur.size → ¬(lo ≤ k ∧ k < hi)) → (storeCells ⟨c, o, none⟩ vs i).run P w = .ok () (w.setRow c (cur.toList.take (o + i) ++ vs ++ cur.toList.drop (o + i + vs.length)).toArray)
  | [], i, cur, w, hg, _, _, _ => by
    simp only [storeCells, List.append_nil, List.length_nil, Nat.add_zero, List.take_append_drop, Array.toArray_toList, Sem.run_pure]
    congr 1
    exact (setRow_id hg).symm
  | v :: vs, i, cur, w, hg, hs, h1, hf => by
    have hs' : o + i + (vs.length + 1) ≤ cur.size := by simpa using hs
    have hcell : w.cell? ⟨c, o + i, none⟩ = some cur[o + i]! := by
      rw [cell_of_row w c _ cur ty (lo, hi) hg, Array.getElem?_eq_getElem (by omega)]
      simp [Array.getElem!_eq_getD, Array.getD, show o + i < cur.size by omega]
    have hfz : w.frozen? ⟨c, o + i, none⟩ = false := by
      have := hf (o + i) (by omega)
      simp only [World.frozen?, hg]
      simp
      omega
    have hst : (store ⟨c, o + i, none⟩ v).run P w = .ok () (w.setRow c (cur.setIfInBounds (o + i) v)) := by
      rw [run_store P w _ v .plain (h1 v (by simp)), hcell]
      simp only [hfz, Bool.false_eq_true, if_false]
      rw [setCell_eq_setRow w c (o + i) cur ty (lo, hi) v hg]
    have hg' := setRow_heap w c cur (cur.setIfInBounds (o + i) v) ty (lo, hi) hg
    have ih := run_storeRow (o := o) vs (i + 1) (cur.setIfInBounds (o + i) v) (w.setRow c (cur.setIfInBounds (o + i) v)) hg' (by simp; omega) (fun v hv => h1 v (by simp [hv])) (by simpa using hf)
    simp only [storeCells, addr_add, Sem.run_bind, hst, Result.andThen_ok, ih, setRow_setRow]
    congr 2
    have hl : o + i < cur.toList.length := by simp; omega
    try simp only [Array.toList_setIfInBounds]
    rw [set_at _ _ _ hl]
    have ht : (cur.toList.take (o + i)).length = o + i := by simp; omega
    congr 1
    rw [List.take_append, List.drop_append, ht]
    rw [List.take_of_length_le (by rw [ht]; omega : (cur.toList.take (o + i)).length ≤ o + (i + 1)), List.drop_of_length_le (by rw [ht]; omega : (cur.toList.take (o + i)).length ≤ o + (i + 1) + vs.length)]
    rw [show o + (i + 1) - (o + i) = 1 by omega, show o + (i + 1) + vs.length - (o + i) = vs.length + 1 by omega]
    simp [List.drop_drop, Nat.add_assoc, Nat.add_comm, Nat.add_left_comm]
where setRow_id {w : World} {c : Nat} {cur : Array Value} {ty : TypeId} {fr : Nat × Nat} (hg : w.heap[c]? = some (.cells cur ty fr)) : w.setRow c cur = w := by
        have hlt := (Array.getElem?_eq_some_iff.1 hg).1
        have hgg : w.heap[c] = .cells cur ty fr := (Array.getElem?_eq_some_iff.1 hg).2
        have : (w.setRow c cur).heap = w.heap := by
          apply Array.ext_getElem?
          intro k
          by_cases hk : k = c
          · subst hk
            rw [setRow_heap w k cur cur ty fr hg, hg]
          · exact setRow_other w c k cur hk
        show ({ w with heap := (w.setRow c cur).heap } : World) = w
        rw [this]

theorem cells_one {gs : List GV} {us : List Value} (h : VRs w ρ Pp gs Pt us) (hc : gs.all GV.isCell = true) : ∀ v ∈ us, v.oneCell' = true := by
  intro v hv
  obtain ⟨j, hj⟩ := List.mem_iff_getElem?.1 hv
  have hl := VRs_len h
  have hlt := (List.getElem?_eq_some_iff.1 hj).1
  obtain ⟨u, h1, h2⟩ := VRs_get h j (gs[j]'(by omega)) (by simp)
  rw [hj] at h1
  cases h1
  exact isCell_one h2 (List.all_eq_true.1 hc _ (List.getElem_mem _))
end

end Go.Proofs.Ytolhjndfplfjpaa.G
