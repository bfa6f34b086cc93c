/- The operations that make blocks or write them. -/
import Derived.Test.YtolhjndfplfjpaaG10
namespace Go.Proofs.Ytolhjndfplfjpaa.G
open Go.RowKit
set_option linter.unusedVariables false
set_option linter.unusedSimpArgs false

section
variable {P : Program} {Pt Pp : Nat → Prop} {w : World} {ρ : Map} {h : Heap} {a : Act} {o : Oper} {σ : GS} {C : Cfg} {call : GCall} {F : Nat → Prop} {N : Nat}

theorem Step.fresh_block (p : Pre Pt w ρ Pp h F N) (hN : h.length < N) {cs : List GV} {w' : World} {rc : Array Value} {ty : TypeId} {lo hi : Nat} (r : List Nat)
    (hos : w'.os = w.os) (htape : w'.tape = w.tape) (hout : w'.output = w.output) (hheap : w'.heap = w.heap.push (.cells rc ty (lo, hi)))
    (hrc : cs.length ≤ rc.size) (hfr : ∀ o, o < rc.size → ¬(lo ≤ o ∧ o < hi)) {us : List Value} (hus : rc.toList.take cs.length = us) (hv : VRs w ρ Pp cs Pt us) :
    Step Pt w ρ Pp h ⟨r, []⟩ w' (ρ.put h.length cs.length (w.heap.size, 0)) Pp (h ++ [cs]) := by
  refine Step.place p (i := h.length) (by simp) (fun k hk => ?_) (.inl ⟨rfl, by simp, rfl⟩) (fun m _ => p.nw _ m (Nat.le_refl _) hN) hos htape hout hheap hrc hfr fun j g hg => ?_
  · by_cases hlt : k < h.length
    · rw [List.getElem?_append_left hlt]
    · rw [List.getElem?_eq_none (by simp; omega), List.getElem?_eq_none (by omega)]
  · obtain ⟨u, h1, h2⟩ := VRs_get hv j g hg
    refine ⟨u, ?_, h2⟩
    rw [← hus, List.getElem?_take] at h1
    split at h1
    · simpa using h1
    · cases h1

theorem op_alloc {t : TypeId} {v : GV} {h' : Heap} {lg : Lg} (ho : o.op = .alloc t) (e : gop P C call (eval σ) o h = some (v, h', lg)) (p : Pre Pt w ρ Pp h F h'.length) :
    OpTo P o a w (After Pt w ρ Pp h lg h' v) := by
  simp only [gop, ho, Option.bind_eq_bind, Option.bind_eq_some_iff, Option.some.injEq, Prod.mk.injEq] at e
  obtain ⟨z, hz, rfl, rfl, rfl⟩ := e
  obtain ⟨zv, h1, h2⟩ := gzero_run hz
  have hl := VRs_len (h2 w ρ Pp Pt)
  simp only [Array.length_toList] at hl
  refine .value (u := .pointer (some ⟨w.heap.size, 0, none⟩)) (w' := w.alloc (.cells zv.cells t)) ?_ ⟨_, Pp, ⟨w.heap.size, 0, put_same, rfl⟩, Step.fresh_block p (by simp) [] rfl rfl rfl rfl (by omega) (fun o _ => by omega) rfl ?_⟩
  · simp only [execOp, ho, Instr.alloc, Sem.run_bind, h1, Result.andThen_ok, newVar, newRow, run_newObj, Sem.run_pure]
    rfl
  · rw [← hl, List.take_of_length_le (by simp)]
    exact h2 ..

theorem op_box {t : TypeId} {x : Operand} {v : GV} {h' : Heap} {lg : Lg} (ho : o.op = .box t x) (hx : EV w ρ Pp Pt σ a x) (e : gop P C call (eval σ) o h = some (v, h', lg)) (p : Pre Pt w ρ Pp h F h'.length) :
    OpTo P o a w (After Pt w ρ Pp h lg h' v) := by
  simp only [gop, ho, Option.bind_eq_bind, Option.bind_eq_some_iff, Option.some.injEq, Prod.mk.injEq] at e
  obtain ⟨g, hg, rfl, rfl, rfl⟩ := e
  have h2 := VR_cells (hx _ hg)
  have hl := VRs_len h2
  simp only [Array.length_toList] at hl
  refine .value (u := .pointer (some ⟨w.heap.size, 0, none⟩)) (w' := w.alloc (.cells (a.eval x).cells t)) ?_ ⟨_, Pp, ⟨w.heap.size, 0, put_same, rfl⟩, Step.fresh_block p (by simp) [] rfl rfl rfl rfl (by omega) (fun o _ => by omega) rfl ?_⟩
  · simp only [execOp, ho, Instr.box, Sem.run_bind, Result.andThen_ok, newVar, newRow, run_newObj, Sem.run_pure]
    rfl
  · rw [← hl, List.take_of_length_le (by simp)]
    exact h2

theorem zeros_len (z : List GV) : ∀ n, (zeros z n).length = n * z.length
  | 0 => by simp [zeros]
  | n + 1 => by simp [zeros, zeros_len z n, Nat.add_mul]; omega

theorem zeros_get (z : List GV) : ∀ (n j : Nat), j < n * z.length → (zeros z n)[j]? = z[j % z.length]?
  | 0, j, hj => by simp at hj
  | n + 1, j, hj => by
    by_cases h1 : j < z.length
    · rw [zeros, List.getElem?_append_left h1, Nat.mod_eq_of_lt h1]
    · rw [zeros, List.getElem?_append_right (by omega), zeros_get z n (j - z.length) (by rw [Nat.add_mul] at hj; omega)]
      congr 1
      rw [Nat.mod_eq_sub_mod (by omega : j ≥ z.length)]

theorem VRs_zeros {z : List GV} {zv : Array Value} {n : Nat} (hz : VRs w ρ Pp z Pt zv.toList) : VRs w ρ Pp (zeros z n) Pt ((Array.range (n * z.length)).map (zv[· % zv.size]!)).toList := by
  have hl := VRs_len hz
  simp only [Array.length_toList] at hl
  refine VRs_of (by simp [zeros_len]) fun j g u e1 e2 => ?_
  have hj : j < n * z.length := by
    have := (List.getElem?_eq_some_iff.1 e1).1
    rwa [zeros_len] at this
  have hpos : 0 < z.length := by
    rcases Nat.eq_zero_or_pos z.length with h0 | h0
    · rw [h0] at hj; simp at hj
    · exact h0
  rw [zeros_get z n j hj] at e1
  obtain ⟨u', h1, h2⟩ := VRs_get hz _ g e1
  simp [hj] at e2
  have hlt : j % z.length < zv.size := by rw [hl]; exact Nat.mod_lt _ hpos
  rw [hl] at e2
  have h3 : zv[j % z.length]? = some u' := by simpa using h1
  rw [Array.getElem?_eq_getElem hlt] at h3
  simp only [Option.some.injEq] at h3
  have h4 : zv[j % z.length]! = u' := by
    rw [← h3]
    exact getElem!_pos zv _ hlt
  rw [h4] at e2
  rw [← e2]
  exact h2

theorem range_zero {n : Nat} (f g : Nat → Value) (hn : n = 0) : (Array.range n).map f = (Array.range n).map g := by subst hn; simp
theorem rsz_alloc (w : World) (rc : Array Value) (ty : TypeId) (fr : Nat × Nat) : rsz (w.alloc (.cells rc ty fr)) w.heap.size = some rc.size := by
  unfold rsz
  rw [heap_alloc_new]

theorem op_makeSlice {t : TypeId} {x y : Operand} {v : GV} {h' : Heap} {lg : Lg} (ho : o.op = .makeSlice t x y) (hx : EV w ρ Pp Pt σ a x) (hy : EV w ρ Pp Pt σ a y) (e : gop P C call (eval σ) o h = some (v, h', lg)) (p : Pre Pt w ρ Pp h F h'.length) :
    OpTo P o a w (After Pt w ρ Pp h lg h' v) := by
  simp only [gop, ho, Option.bind_eq_bind, Option.bind_eq_some_iff] at e
  obtain ⟨d, hu, e⟩ := e
  split at e
  · rename_i et
    simp only [Option.bind_eq_some_iff] at e
    obtain ⟨info, hi, z, hz, g1, hg1, e⟩ := e
    split at e
    · rename_i k1 len
      simp only [Option.bind_eq_some_iff] at e
      obtain ⟨g2, hg2, e⟩ := e
      split at e
      · rename_i k2 cap
        split at e
        · rename_i hc
          obtain ⟨c0, c1, c2, c3, c4⟩ := hc
          simp only [Option.some.injEq, Prod.mk.injEq] at e
          obtain ⟨rfl, rfl, rfl⟩ := e
          obtain ⟨zv, h1, h2⟩ := gzero_run hz
          have hvx := hx _ hg1
          have hvy := hy _ hg2
          simp only [VR, VRi] at hvx hvy
          have hzl := VRs_len (h2 w ρ Pp Pt)
          simp only [Array.length_toList] at hzl
          have wl : IntKind.i64.wrap len = len := wrap_small (by omega) (by omega)
          have wc : IntKind.i64.wrap cap = cap := wrap_small (by omega) (by omega)
          have hbig : ¬ (info.bytes * cap > 2 ^ 48) := by
            have e1 : ((cap.toNat * info.bytes : Nat) : Int) = info.bytes * cap := by
              rw [Nat.mul_comm]; push_cast; congr 1; omega
            rw [← e1]
            simp only [roomMax] at c3
            omega
          refine .value (u := .slice (some ⟨w.heap.size, 0, none⟩) len.toNat cap.toNat) (w' := w.alloc (.cells ((Array.range (cap.toNat * info.size)).map (zv.cells[· % zv.cells.size]!)) et)) ?_ ⟨ρ.put h.length (zeros z cap.toNat).length (w.heap.size, 0), Pp, ?_, Step.fresh_block p (by simp) [] rfl rfl rfl rfl (by simp [zeros_len, c4]) (fun o _ => by omega) rfl ?_⟩
          · simp only [execOp, ho, Instr.makeSlice, hvx, hvy, Sem.run_bind, run_underlying hu, Result.andThen_ok, asInt, asIntOf, Sem.run_pure, run_typeInfo hi, wl, wc]
            have n1 : ¬ (cap < 0) := by omega
            have n2 : ¬ (len < 0) := by omega
            have n3 : ¬ (len > cap) := by omega
            simp only [n1, n2, n3, hbig, decide_false, Bool.or_false, Bool.false_eq_true, if_false]
            simp only [Sem.run_bind, run_askRoom, Result.andThen_ok, sizeOf, run_typeInfo hi, Sem.run_pure]
            by_cases hn0 : cap.toNat * info.size = 0
            · rw [if_pos hn0]
              simp only [Sem.run_bind, Sem.run_pure, Result.andThen_ok, newRow, run_newObj]
              rw [range_zero _ (fun x => zv.cells[x % zv.cells.size]!) hn0]
              rfl
            · rw [if_neg hn0]
              simp only [Sem.run_bind, Sem.run_pure, Result.andThen_ok, h1, newRow, run_newObj]
              rfl
          · refine ⟨w.heap.size, 0, ⟨w.heap.size, 0, none⟩, cap.toNat, ?_, rfl, by omega, Nat.le_refl _, .inr ⟨rfl, cap.toNat * info.size, ?_, by omega⟩⟩
            · rw [Nat.zero_add, ← c4, ← zeros_len]
              exact put_same
            · rw [rsz_alloc]; simp
          · rw [List.take_of_length_le (by simp [zeros_len, c4]), ← c4]
            exact VRs_zeros (h2 ..)
        · cases e
      · cases e
    · cases e
  · cases e
where wrap_small {n : Int} (h0 : 0 ≤ n) (h1 : n ≤ maxLen) : IntKind.i64.wrap n = n := by
        simp only [maxLen] at h1
        simp [IntKind.wrap, IntKind.bits, IntKind.signed, Int.bmod]
        omega

/-- A block that this machine does not tell of. -/
theorem Step.idle (Pt : Nat → Prop) (w : World) (ρ : Map) (Pp : Nat → Prop) (h : Heap) (ob : Obj) : Step Pt w ρ Pp h .nil (w.alloc ob) ρ Pp h := by
  have hold : ∀ c, c < w.heap.size → (w.alloc ob).heap[c]? = w.heap[c]? := fun c hc => by
    show (w.heap.push ob)[c]? = _
    simp [Array.getElem?_push, Nat.ne_of_lt hc]
  refine ⟨rfl, rfl, rfl, (show w.heap.size ≤ (w.heap.push ob).size by simp), ⟨fun c R hc => ?_, fun _ _ _ h => h, fun _ h => h⟩, fun c hc _ => hold c hc, fun _ h => .inl h, fun _ _ _ => rfl, Nat.le_refl _, fun _ _ _ => rfl, fun i hi => ?_, fun i c hi => ?_, fun i j c hi => ?_⟩
  · have hlt : c < w.heap.size := by
      unfold rsz at hc
      split at hc
      · rename_i he; exact (Array.getElem?_eq_some_iff.1 he).1
      · cases hc
    unfold rsz at hc ⊢
    rw [hold c hlt]
    exact hc
  · rcases hi with hi | hi
    · exact absurd hi (by simp [Lg.nil])
    · omega
  · rcases hi with hi | hi
    · exact absurd hi (by simp [Lg.nil])
    · omega
  · rcases hi with hi | hi
    · omega
    · exact absurd hi (by simp [Lg.nil])

theorem op_buildSlice {t : TypeId} {len : Nat} {parts : Array (Nat × Operand)} {v : GV} {h' : Heap} {lg : Lg} (ho : o.op = .buildSlice t len parts) (hx : ∀ p, p ∈ parts.toList → EV w ρ Pp Pt σ a p.2) (e : gop P C call (eval σ) o h = some (v, h', lg)) (p : Pre Pt w ρ Pp h F h'.length) :
    OpTo P o a w (After Pt w ρ Pp h lg h' v) := by
  simp only [gop, ho, Option.bind_eq_bind, Option.bind_eq_some_iff] at e
  obtain ⟨d, hu, e⟩ := e
  split at e
  · rename_i et
    simp only [Option.bind_eq_some_iff] at e
    obtain ⟨n, hn, z, hz, ps, hp, e⟩ := e
    split at e
    · rename_i hc
      simp only [Option.bind_eq_some_iff] at e
      obtain ⟨cs, hf, e⟩ := e
      obtain ⟨zv, h1, h2⟩ := gzero_run hz
      obtain ⟨h3, h4⟩ := gparts_of hp hx
      have hz0 := VRs_zeros (n := len) (h2 w ρ Pp Pt)
      obtain ⟨vs, h5, h6⟩ := fill_run (w := w) (ρ := ρ) (Pp := Pp) (Pt := Pt) _ ps _ (zeros z len) _ cs hf hz0 h3 h4
      have hl := VRs_len h6
      simp only [Array.length_toList] at hl
      have hcl : cs.length = len * n := by
        rw [fill_len hf, zeros_len, hc.2]
      have hrun : (execOp a.eval o).run P w = .ok (.value (.slice (some ⟨w.heap.size, 0, none⟩) len len)) (w.alloc (.cells vs et)) := by
        have hb : ¬ (len * n > 2 ^ 24) := by omega
        rw [hc.2] at h5
        simp only [execOp, ho, Instr.buildSlice, Sem.run_bind, run_underlying hu, Result.andThen_ok, run_sizeOf hn]
        rw [if_neg hb]
        by_cases hn0 : len * n = 0
        · rw [if_pos hn0]
          simp only [Sem.run_bind, Sem.run_pure, Result.andThen_ok]
          rw [range_zero _ (fun x => zv.cells[x % zv.cells.size]!) hn0, h5]
          simp only [Sem.run_bind, Sem.run_pure, Result.andThen_ok, newRow, run_newObj]
          rfl
        · rw [if_neg hn0]
          simp only [Sem.run_bind, Sem.run_pure, Result.andThen_ok, h1]
          rw [h5]
          simp only [Sem.run_bind, Sem.run_pure, Result.andThen_ok, newRow, run_newObj]
          rfl
      cases len with
      | zero =>
        simp only [Option.some.injEq, Prod.mk.injEq] at e
        obtain ⟨rfl, rfl, rfl⟩ := e
        exact .value hrun ⟨ρ, Pp, .inr ⟨_, rfl⟩, Step.idle Pt w ρ Pp h _⟩
      | succ len =>
      simp only [Option.some.injEq, Prod.mk.injEq] at e
      obtain ⟨rfl, rfl, rfl⟩ := e
      generalize hlen : len + 1 = len at *
      refine .value hrun ⟨ρ.put h.length cs.length (w.heap.size, 0), Pp, ?_, Step.fresh_block p (by simp) [] rfl rfl rfl rfl (by omega) (fun o _ => by omega) rfl ?_⟩
      · refine ⟨w.heap.size, 0, ⟨w.heap.size, 0, none⟩, len, ?_, rfl, by omega, Nat.le_refl _, .inr ⟨rfl, len * n, ?_, by omega⟩⟩
        · rw [Nat.zero_add, ← hcl]
          exact put_same
        · rw [rsz_alloc]; congr 1; omega
      · rw [← hl, List.take_of_length_le (by simp)]
        exact h6
    · cases e
  · cases e
where fill_len {place : Nat → Option (Nat × Nat)} : ∀ {ps : List (Nat × GV)} {cells cs : List GV}, gfill place cells ps = some cs → cs.length = cells.length
        | [], cells, cs, e => by simp [gfill] at e; rw [e]
        | (i, v) :: ps, cells, cs, e => by
          unfold gfill at e
          split at e
          · cases e
          · split at e
            · rename_i hs
              rw [fill_len e, splice_len hs.2]
            · cases e
end

end Go.Proofs.Ytolhjndfplfjpaa.G
