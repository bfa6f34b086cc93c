/- The operations that change nothing, one by one: literals, builtins, conversions. -/
import Derived.Test.YtolhjndfplfjpaaG7
namespace Go.Proofs.Ytolhjndfplfjpaa.G
open Go.RowKit
set_option linter.unusedVariables false
set_option linter.unusedSimpArgs false

theorem set_at {α : Type} : ∀ (l : List α) (i : Nat) (c : α), i < l.length → l.set i c = l.take i ++ c :: l.drop (i + 1)
  | [], i, c, h => by simp at h
  | x :: l, 0, c, _ => by simp
  | x :: l, i + 1, c, h => by simp [set_at l i c (by simpa using h)]

theorem fold_set : ∀ (ws : List Value) (cells : Array Value) (off k : Nat), off + k + ws.length ≤ cells.size →
    ((ws.zipIdx k).foldl (fun cs (c, j) => cs.setIfInBounds (off + j) c) cells).toList = cells.toList.take (off + k) ++ ws ++ cells.toList.drop (off + k + ws.length)
  | [], cells, off, k, _ => by simp
  | c :: ws, cells, off, k, h => by
    have h' : off + k + 1 + ws.length ≤ cells.size := by simpa [Nat.add_assoc, Nat.add_comm 1] using h
    rw [List.zipIdx_cons, List.foldl_cons, fold_set ws _ off (k + 1) (by simp; omega)]
    have hl : off + k < cells.toList.length := by simp; omega
    simp only [Array.toList_setIfInBounds]
    rw [set_at _ _ _ hl]
    have ht : (cells.toList.take (off + k)).length = off + k := by simp; omega
    rw [List.take_append, List.drop_append, ht]
    rw [List.take_of_length_le (by omega : (cells.toList.take (off + k)).length ≤ off + (k + 1)), List.drop_of_length_le (by omega : (cells.toList.take (off + k)).length ≤ off + (k + 1) + ws.length)]
    rw [show off + (k + 1) - (off + k) = 1 by omega, show off + (k + 1) + ws.length - (off + k) = ws.length + 1 by omega]
    simp [List.drop_drop, Nat.add_assoc, Nat.add_comm, Nat.add_left_comm]

section
variable {P : Program} {Pt Pp : Nat → Prop} {w : World} {ρ : Map} {h : Heap} {a : Act} {o : Oper} {σ : GS} {C : Cfg} {call : GCall}

theorem VRs_splice {cs vs : List GV} {us ws : List Value} {off : Nat} (h : VRs w ρ Pp cs Pt us) (h' : VRs w ρ Pp vs Pt ws) :
    VRs w ρ Pp (splice cs off vs) Pt (us.take off ++ ws ++ us.drop (off + ws.length)) := by
  unfold splice
  rw [VRs_len h']
  exact VRs_append (VRs_append (VRs_take _ h) h') (VRs_drop _ h)

theorem splice_len {cs vs : List GV} {off : Nat} (h : off + vs.length ≤ cs.length) : (splice cs off vs).length = cs.length := by
  unfold splice
  simp
  omega

theorem fill_run (place : Nat → Option (Nat × Nat)) : ∀ (ps : List (Nat × GV)) (qs : List (Nat × Value)) (cells : List GV) (us : Array Value) (r : List GV), gfill place cells ps = some r → VRs w ρ Pp cells Pt us.toList →
    qs.length = ps.length → (∀ (j : Nat) (p : Nat × GV) (q : Nat × Value), ps[j]? = some p → qs[j]? = some q → q.1 = p.1 ∧ VR w ρ Pp p.2 Pt q.2) → ∃ vs : Array Value, Instr.fill place us qs = some vs ∧ VRs w ρ Pp r Pt vs.toList
  | [], [], cells, us, r, e, hc, _, _ => by
    simp only [gfill, Option.some.injEq] at e
    subst e
    exact ⟨us, rfl, hc⟩
  | [], q :: qs, _, _, _, _, _, hl, _ => by simp at hl
  | p :: ps, [], _, _, _, _, _, hl, _ => by simp at hl
  | (i, v) :: ps, (i', v') :: qs, cells, us, r, e, hc, hl, hp => by
    obtain ⟨h1, h2⟩ := hp 0 _ _ rfl rfl
    dsimp only at h1 h2
    subst h1
    unfold gfill at e
    unfold Instr.fill
    split at e
    · cases e
    · rename_i off size hpl
      split at e
      · rename_i hs
        have hl2 := VRs_len (VR_cells h2)
        have hl1 := VRs_len hc
        simp only [Array.length_toList] at hl1 hl2
        have hcnd : ¬(v'.cells.size ≠ size ∨ off + v'.cells.size > us.size) := by
          rw [hl1, hl2]; omega
        have := fill_run place ps qs (splice cells off v.cells) (v'.cells.zipIdx.foldl (fun cs (c, j) => cs.setIfInBounds (off + j) c) us) r e ?_ (by simpa using hl) (fun j p q e1 e2 => hp (j + 1) p q (by simpa using e1) (by simpa using e2))
        · obtain ⟨vs, h3, h4⟩ := this
          refine ⟨vs, ?_, h4⟩
          simp only [hpl]
          rw [if_neg (by simpa using hcnd)]
          exact h3
        · rw [← Array.foldl_toList, Array.toList_zipIdx, fold_set _ _ _ _ (by simp [hl1, hl2]; omega)]
          exact VRs_splice hc (VR_cells h2)
      · cases e

theorem gparts_of {parts : Array (Nat × Operand)} {ps : List (Nat × GV)} (e : gparts (eval σ) parts = some ps) (hx : ∀ p, p ∈ parts.toList → EV w ρ Pp Pt σ a p.2) :
    (parts.map fun (i, x) => (i, a.eval x)).toList.length = ps.length ∧ ∀ (j : Nat) (p : Nat × GV) (q : Nat × Value), ps[j]? = some p → (parts.map fun (i, x) => (i, a.eval x)).toList[j]? = some q → q.1 = p.1 ∧ VR w ρ Pp p.2 Pt q.2 := by
  unfold gparts at e
  rw [Array.toList_map]
  generalize parts.toList = l at e hx
  induction l generalizing ps with
  | nil => simp at e; subst e; simp
  | cons x l ih =>
    simp only [List.mapM_cons, Option.bind_eq_bind, Option.bind_eq_some_iff, Option.pure_def, Option.some.injEq] at e
    obtain ⟨⟨i, g⟩, h1, gs', h2, rfl⟩ := e
    obtain ⟨k1, k2⟩ := ih h2 (fun p hp => hx p (by simp [hp]))
    refine ⟨by simp at k1 ⊢; exact k1, fun j p q e1 e2 => ?_⟩
    cases j with
    | zero =>
      simp only [Option.map_eq_some_iff, Prod.mk.injEq] at h1
      obtain ⟨g', h3, rfl, rfl⟩ := h1
      simp at e1 e2
      subst e1
      subst e2
      exact ⟨rfl, hx x (by simp) _ h3⟩
    | succ j => exact k2 j p q (by simpa using e1) (by simpa using e2)

theorem gzero_run {t : TypeId} {z : List GV} (e : gzero P t = some z) : ∃ v : Value, (∀ w, (zeroValue t).run P w = .ok v w) ∧ ∀ (w : World) (ρ : Map) (Pp Pt : Nat → Prop), VRs w ρ Pp z Pt v.cells.toList := by
  unfold gzero at e
  simp only [Option.bind_eq_bind, Option.bind_eq_some_iff, Option.some.injEq] at e
  obtain ⟨i, h1, v, h2, g, h3, rfl⟩ := e
  exact ⟨v, fun w => by simp [zeroValue, run_typeInfo h1, h2], fun w ρ Pp Pt => VR_cells (VR_ofV h3)⟩

theorem op_build {t : TypeId} {parts : Array (Nat × Operand)} {v : GV} {h' : Heap} {lg : Lg} (ho : o.op = .build t parts) (hx : ∀ p, p ∈ parts.toList → EV w ρ Pp Pt σ a p.2) (e : gop P C call (eval σ) o h = some (v, h', lg)) :
    OpTo P o a w (After Pt w ρ Pp h lg h' v) := by
  simp only [gop, ho, Option.bind_eq_bind, Option.bind_eq_some_iff] at e
  obtain ⟨z, hz, ps, hp, e⟩ := e
  obtain ⟨zv, h1, h2⟩ := gzero_run hz
  obtain ⟨h3, h4⟩ := gparts_of hp hx
  split at e
  · rename_i fs hu
    simp only [Option.bind_eq_some_iff, Option.some.injEq, Prod.mk.injEq] at e
    obtain ⟨places, hpl, cs, hf, rfl, rfl, rfl⟩ := e
    obtain ⟨vs, h5, h6⟩ := fill_run (w := w) (ρ := ρ) (Pp := Pp) (Pt := Pt) _ ps _ z zv.cells cs hf (h2 ..) h3 h4
    refine .same (u := .agg vs) ?_ ⟨vs, rfl, h6⟩
    have hm : ∀ (l : List Field) (places : List (Nat × Nat)), (l.mapM fun f => (gsize P f.type).map fun n => (f.offset, n)) = some places →
        (l.mapM fun f => (do pure (f.offset, ← sizeOf f.type) : Sem (Nat × Nat))).run P w = .ok places w := by
      intro l
      induction l with
      | nil => intro places e; simp at e; subst e; simp
      | cons f l ih =>
        intro places e
        simp only [List.mapM_cons, Option.bind_eq_bind, Option.bind_eq_some_iff, Option.pure_def, Option.some.injEq, Option.map_eq_some_iff] at e
        obtain ⟨p, ⟨n, hn, rfl⟩, ps, hps, rfl⟩ := e
        have h9 := ih ps hps
        simp only [List.mapM_cons, Sem.run_bind, run_sizeOf hn, Result.andThen_ok, Sem.run_pure]
        rw [h9]
        rfl
    have hm' := hm _ _ hpl
    have e1 : (fs.mapM fun f => (do pure (f.offset, ← sizeOf f.type) : Sem (Nat × Nat))).run P w = .ok places.toArray w := by
      rw [Array.mapM_eq_mapM_toList]
      simp only [Sem.run_map, hm', Result.andThen_ok]
    simp only [execOp, ho, Instr.build, Sem.run_bind, h1, Result.andThen_ok, run_underlying hu, e1]
    have e2 : (fun x : Nat => places.toArray[x]?) = fun x : Nat => places[x]? := by funext x; simp
    simp only [e2, h5, Sem.run_pure, Result.andThen_ok]
  · rename_i hu
    simp only [Option.bind_eq_some_iff, Option.some.injEq, Prod.mk.injEq] at e
    obtain ⟨n, hn, cs, hf, rfl, rfl, rfl⟩ := e
    obtain ⟨vs, h5, h6⟩ := fill_run (w := w) (ρ := ρ) (Pp := Pp) (Pt := Pt) _ ps _ z zv.cells cs hf (h2 ..) h3 h4
    refine .same (u := .agg vs) ?_ ⟨vs, rfl, h6⟩
    simp only [execOp, ho, Instr.build, Sem.run_bind, h1, Result.andThen_ok, run_underlying hu, run_sizeOf hn, h5, Sem.run_pure]
  · cases e
end

end Go.Proofs.Ytolhjndfplfjpaa.G
