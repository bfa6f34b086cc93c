/- Regions in any order: what is in order, what is apart. -/
import Derived.Test.YtolhjndfplfjpaaG17
namespace Go.Proofs.Ytolhjndfplfjpaa.G
open Go.RowKit
set_option linter.unusedVariables false
set_option linter.unusedSimpArgs false

/-! Masks. -/
theorem masks_spec (ops : Array Oper) (he : edgesOk ops = true) (i : Nat) (o : Oper) (ho : ops[i]? = some o) (k : Nat) (hk : ((masks ops).getD i 0).testBit k = true) :
    ∃ e, e ∈ o.after.toList ∧ Region.binds .any e = true ∧ e.on < i ∧ (k = e.on ∨ ((masks ops).getD e.on 0).testBit k = true) := by
  have hi : i < ops.size := (Array.getElem?_eq_some_iff.1 ho).1
  let f : List Nat → Oper → List Nat := fun acc o => acc ++ [maskOf acc o]
  have hlen : ∀ (l : List Oper) (acc : List Nat), (l.foldl f acc).length = acc.length + l.length := by
    intro l
    induction l with
    | nil => simp
    | cons x l ih => intro acc; rw [List.foldl_cons, ih]; simp [f]; omega
  have hpre : ∀ (l : List Oper) (acc : List Nat), (l.foldl f acc).take acc.length = acc := by
    intro l
    induction l with
    | nil => simp
    | cons x l ih =>
      intro acc
      rw [List.foldl_cons]
      have := ih (f acc x)
      have h2 : ((l.foldl f (f acc x)).take (f acc x).length).take acc.length = (l.foldl f (f acc x)).take acc.length := by
        rw [List.take_take]; congr 1; simp [f]
      rw [← h2, this]
      simp [f]
  have hget : ∀ (l : List Oper) (acc : List Nat) (j : Nat) (x : Oper), l[j]? = some x → (l.foldl f acc)[acc.length + j]? = some (maskOf ((l.foldl f acc).take (acc.length + j)) x) := by
    intro l
    induction l with
    | nil => intro acc j x hx; simp at hx
    | cons y l ih =>
      intro acc j x hx
      rw [List.foldl_cons]
      cases j with
      | zero =>
        simp at hx
        subst hx
        have h1 := hpre l (f acc y)
        have h2 : (l.foldl f (f acc y)).take acc.length = acc := by
          have h2 : ((l.foldl f (f acc y)).take (f acc y).length).take acc.length = (l.foldl f (f acc y)).take acc.length := by
            rw [List.take_take]; congr 1; simp [f]
          rw [← h2, h1]
          simp [f]
        rw [Nat.add_zero, h2]
        have h3 : (f acc y)[acc.length]? = some (maskOf acc y) := by simp [f]
        rw [← h1, List.getElem?_take] at h3
        rw [if_pos (by simp [f])] at h3
        exact h3
      | succ j =>
        have := ih (f acc y) j x (by simpa using hx)
        have hfl : (f acc y).length = acc.length + 1 := by simp [f]
        rw [hfl] at this
        rw [show acc.length + (j + 1) = acc.length + 1 + j by omega]
        exact this
  have hm : (masks ops)[i]? = some (maskOf ((masks ops).take i) o) := by
    have := hget ops.toList [] i o (by simpa using ho)
    simp only [List.length_nil, Nat.zero_add] at this
    exact this
  have hd : (masks ops).getD i 0 = maskOf ((masks ops).take i) o := by simp [List.getD, hm]
  rw [hd] at hk
  have hfold : ∀ (l : List Edge) (s : Nat), (l.foldl (fun s e => if Region.binds .any e then s ||| (2 ^ e.on ||| ((masks ops).take i).getD e.on 0) else s) s).testBit k = true →
      s.testBit k = true ∨ ∃ e, e ∈ l ∧ Region.binds .any e = true ∧ (k = e.on ∨ (((masks ops).take i).getD e.on 0).testBit k = true) := by
    intro l
    induction l with
    | nil => intro s h; exact .inl h
    | cons e l ih =>
      intro s h
      rw [List.foldl_cons] at h
      rcases ih _ h with h1 | ⟨e', h1, h2⟩
      · by_cases hb : Region.binds .any e = true
        · rw [if_pos hb] at h1
          rw [Nat.testBit_or, Nat.testBit_or, Nat.testBit_two_pow] at h1
          simp only [Bool.or_eq_true, decide_eq_true_eq] at h1
          rcases h1 with h1 | h1 | h1
          · exact .inl h1
          · exact .inr ⟨e, by simp, hb, .inl h1.symm⟩
          · exact .inr ⟨e, by simp, hb, .inr h1⟩
        · rw [if_neg hb] at h1
          exact .inl h1
      · exact .inr ⟨e', by simp [h1], h2⟩
  rcases hfold _ _ hk with h1 | ⟨e, h1, h2, h3⟩
  · simp at h1
  · have he' := List.all_eq_true.1 he i (by simpa using hi)
    simp only [ho] at he'
    have he2 := List.all_eq_true.1 he' e h1
    simp only [h2, Bool.not_true, Bool.false_or, Nat.blt_eq] at he2
    refine ⟨e, h1, h2, he2, h3.imp id fun h => ?_⟩
    have : ((masks ops).take i).getD e.on 0 = (masks ops).getD e.on 0 := by
      simp [List.getD, List.getElem?_take, he2]
    rw [← this]
    exact h

theorem slots_pair {ops : Array Oper} {m : List Nat} (hs : slotsOk ops m = true) {i j : Nat} (hij : i < j) {a b : Oper} (ha : ops[i]? = some a) (hb : ops[j]? = some b) (hm : (m.getD j 0).testBit i = false) :
    (∀ d, a.dst = some d → d ∉ slotsOf ops b) ∧ (∀ d, b.dst = some d → d ∉ slotsOf ops a) := by
  have hj : j < ops.size := (Array.getElem?_eq_some_iff.1 hb).1
  have h1 := List.all_eq_true.1 hs j (by simpa using hj)
  have h2 := List.all_eq_true.1 h1 i (by simpa using hij)
  simp only [hm, Bool.false_or, ha, hb, Bool.and_eq_true] at h2
  obtain ⟨h3, h4⟩ := h2
  constructor
  · intro d hd
    rw [hd] at h3
    simpa using h3
  · intro d hd
    rw [hd] at h4
    simpa using h4

theorem recs_pair {m : List Nat} : ∀ {l : List Rec}, recsOk m l = true → ∀ {i j : Nat} {a b : Rec}, i < j → l[i]? = some a → l[j]? = some b → (m.getD b.j 0).testBit a.j = false → meets a b = false
  | [], _, i, j, a, b, _, ha, _, _ => by simp at ha
  | x :: l, h, i, j, a, b, hij, ha, hb, hm => by
    simp only [recsOk, Bool.and_eq_true] at h
    cases j with
    | zero => omega
    | succ j =>
      simp only [List.getElem?_cons_succ] at hb
      cases i with
      | zero =>
        simp at ha
        subst ha
        have := List.all_eq_true.1 h.1 b (List.mem_of_getElem? hb)
        rw [hm] at this
        simpa using this
      | succ i =>
        simp only [List.getElem?_cons_succ] at ha
        exact recs_pair h.2 (by omega) ha hb hm

/-- What two operations that do not meet leave alone. -/
structure Apart (a b : Rec) : Prop where
  ww : ∀ i, i ∈ a.lg.w → touches b i = false ∧ i ∉ b.lg.r
  ww' : ∀ i, i ∈ b.lg.w → touches a i = false ∧ i ∉ a.lg.r
  r : ∀ i, i ∈ b.lg.r → touches a i = false
  r' : ∀ i, i ∈ a.lg.r → touches b i = false

theorem apart_of {a b : Rec} (h : meets a b = false) : Apart a b := by
  simp only [meets, Bool.or_eq_false_iff] at h
  obtain ⟨⟨⟨h1, h2⟩, h3⟩, h4⟩ := h
  refine ⟨fun i hi => ?_, fun i hi => ?_, fun i hi => ?_, fun i hi => ?_⟩
  · have := List.any_eq_false.1 h1 i hi
    simp at this
    exact ⟨by simpa using this.2, this.1⟩
  · have := List.any_eq_false.1 h2 i hi
    simp at this
    exact ⟨by simpa using this.2, this.1⟩
  · have := List.any_eq_false.1 h3 i hi
    simpa using this
  · have := List.any_eq_false.1 h4 i hi
    simpa using this

section
variable {P : Program} {C : Cfg} {call : GCall} {nt : Nat} {ops : Array Oper}

/-- A run in the order of the text, step by step. -/
structure StepAt (P : Program) (C : Cfg) (call : GCall) (nt : Nat) (ops : Array Oper) (σs : Nat → GS) (hs : Nat → Heap) (vs : Nat → GV) (lgs : Nat → Lg) (j : Nat) : Prop where
  ex : ∃ o, ops[j]? = some o ∧ dstOk nt o.dst = true ∧ σs (j + 1) = upd (σs j) o.dst (vs j) ∧
    ((Region.wanted o (gyield ops (σs j)) = true ∧ gop P C call (eval (σs j)) o (hs j) = some (vs j, hs (j + 1), lgs j)) ∨
     (Region.wanted o (gyield ops (σs j)) = false ∧ vs j = .un ∧ hs (j + 1) = hs j ∧ lgs j = .nil))

def recAt (hs : Nat → Heap) (lgs : Nat → Lg) (j : Nat) : Rec := ⟨j, (hs j).length, (hs (j + 1)).length, lgs j⟩

theorem gops_run : ∀ (m k : Nat) (σ : GS) (h : Heap) (σ' : GS) (h' : Heap) (recs : List Rec), gops P C call nt ops (List.range' k m) σ h = some (σ', h', recs) →
    ∃ σs hs vs lgs, σs k = σ ∧ hs k = h ∧ σs (k + m) = σ' ∧ hs (k + m) = h' ∧ (∀ j, k ≤ j → j < k + m → StepAt P C call nt ops σs hs vs lgs j) ∧ recs = (List.range' k m).map (recAt hs lgs)
  | 0, k, σ, h, σ', h', recs, e => by
    simp only [List.range'_zero, gops, Option.some.injEq, Prod.mk.injEq] at e
    obtain ⟨rfl, rfl, rfl⟩ := e
    exact ⟨fun _ => σ, fun _ => h, fun _ => .un, fun _ => .nil, rfl, rfl, rfl, rfl, fun j h1 h2 => by omega, rfl⟩
  | m + 1, k, σ, h, σ', h', recs, e => by
    rw [List.range'_succ] at e
    unfold gops at e
    cases hj : ops[k]? with
    | none => rw [hj] at e; cases e
    | some o =>
      rw [hj] at e
      simp only at e
      split at e
      · rename_i hd
        have fin : ∀ (v : GV) (h1 : Heap) (lg : Lg) (recs2 : List Rec), gops P C call nt ops (List.range' (k + 1) m) (upd σ o.dst v) h1 = some (σ', h', recs2) → recs = ⟨k, h.length, h1.length, lg⟩ :: recs2 →
            ((Region.wanted o (gyield ops σ) = true ∧ gop P C call (eval σ) o h = some (v, h1, lg)) ∨ (Region.wanted o (gyield ops σ) = false ∧ v = .un ∧ h1 = h ∧ lg = .nil)) →
            ∃ σs hs vs lgs, σs k = σ ∧ hs k = h ∧ σs (k + (m + 1)) = σ' ∧ hs (k + (m + 1)) = h' ∧ (∀ j, k ≤ j → j < k + (m + 1) → StepAt P C call nt ops σs hs vs lgs j) ∧ recs = (List.range' k (m + 1)).map (recAt hs lgs) := by
          intro v h1 lg recs2 hr hrec hst
          obtain ⟨σs, hs, vs, lgs, e1, e2, e3, e4, e5, e6⟩ := gops_run m (k + 1) _ _ _ _ _ hr
          refine ⟨fun j => if j = k then σ else σs j, fun j => if j = k then h else hs j, fun j => if j = k then v else vs j, fun j => if j = k then lg else lgs j, by simp, by simp, ?_, ?_, fun j h1 h2 => ?_, ?_⟩
          · simp only [show k + (m + 1) ≠ k by omega, if_false]
            rw [← e3]; congr 1; omega
          · simp only [show k + (m + 1) ≠ k by omega, if_false]
            rw [← e4]; congr 1; omega
          · by_cases hjk : j = k
            · subst hjk
              refine ⟨o, hj, hd, ?_, ?_⟩
              · simp [e1]
              · simpa [e2] using hst
            · obtain ⟨o', q1, q2, q3, q4⟩ := (e5 j (by omega) (by omega)).ex
              refine ⟨o', q1, q2, ?_, ?_⟩
              · simpa [hjk, show j + 1 ≠ k by omega] using q3
              · simpa [hjk, show j + 1 ≠ k by omega] using q4
          · rw [hrec, List.range'_succ, List.map_cons, e6]
            congr 1
            · simp [recAt, e2]
            · apply List.map_congr_left
              intro j hjm
              have := (List.mem_range'_1.1 hjm).1
              simp [recAt, show j ≠ k by omega, show j + 1 ≠ k by omega]
        by_cases hw : Region.wanted o (gyield ops σ) = true
        · rw [if_pos hw] at e
          simp only [Option.bind_eq_bind, Option.bind_eq_some_iff, Option.some.injEq, Prod.mk.injEq] at e
          obtain ⟨⟨v, h1, lg⟩, he, ⟨σ2, h2, recs2⟩, hr, rfl, rfl, rfl⟩ := e
          exact fin v h1 lg recs2 hr rfl (.inl ⟨hw, he⟩)
        · rw [if_neg hw] at e
          simp only [Option.bind_eq_bind, Option.bind_eq_some_iff, Option.some.injEq, Prod.mk.injEq] at e
          obtain ⟨⟨σ2, h2, recs2⟩, hr, rfl, rfl, rfl⟩ := e
          exact fin .un h .nil recs2 hr rfl (.inr ⟨by simpa using hw, rfl, rfl, rfl⟩)
      · cases e
end

end Go.Proofs.Ytolhjndfplfjpaa.G
