/- How the two machines stand to each other: a value of the one tells a value of the other, a block of the one lies in a block of the other; what a step of the other may change. -/
import Derived.Test.YtolhjndfplfjpaaG1
import Derived.Laws.Sem
import Derived.Laws.Cells
import Derived.Laws.World
import Derived.Laws.Rows
import Derived.Below
namespace Go.Proofs.Ytolhjndfplfjpaa.G
open Go.RowKit
set_option linter.unusedVariables false

/-- Where block i lies, when it has n cells: the other machine's block, and from which cell on. -/
abbrev Map := Nat → Nat → Option (Nat × Nat)

def rsz (w : World) (c : Nat) : Option Nat :=
  match w.heap[c]? with
  | some (.cells rc _ _) => some rc.size
  | _ => none

/-- No block lies anywhere. -/
def E0 : Map := fun _ _ => none

mutual
/-- Pp: the other machine's blocks that stay as they are for good; Pt: those that stay while this call runs. -/
def VRi (w : World) (Pp : Nat → Prop) : GV → Map → (Nat → Prop) → Value → Prop
  | .int k n, _, _, v => v = .int k n
  | .bool b, _, _, v => v = .bool b
  | .str s, _, _, v => v = .string s
  | .nilp, _, _, v => v = .pointer none
  | .ptr i off tot, ρ, _, v => ∃ c sh, ρ i tot = some (c, sh) ∧ v = .pointer (some ⟨c, sh + off, none⟩)
  | .fp t cells, _, Pt, v => ∃ A, v = .pointer (some A) ∧ (cells ≠ [] → (if t = true then Pt A.block ∨ Pp A.block else Pp A.block) ∧
      ∃ us : List Value, VRsi w Pp cells E0 (if t = true then Pt else Pp) us ∧ ∀ j u, us[j]? = some u → w.cell? (A.add j) = some u)
  | .nils, _, _, v => v = .slice none 0 0
  | .emp, _, _, v => v = .slice none 0 0 ∨ ∃ A, v = .slice (some A) 0 0
  | .sl i off len cap es, ρ, _, v => ∃ c sh A cap', ρ i (off + cap * es) = some (c, sh) ∧ v = .slice (some A) len cap' ∧ len ≤ cap ∧ cap ≤ cap' ∧
      (cap' = 0 ∨ (A = ⟨c, sh + off, none⟩ ∧ ∃ R, rsz w c = some R ∧ sh + off + cap' * es ≤ R))
  | .fz t n es cells, _, Pt, v => (n = 0 ∧ es = 0 ∧ cells = [] ∧ v = .slice none 0 0) ∨ ∃ A cap', v = .slice (some A) n cap' ∧ n ≤ cap' ∧ cells.length = n * es ∧ (cells ≠ [] → (if t = true then Pt A.block ∨ Pp A.block else Pp A.block) ∧
      ∃ us : List Value, VRsi w Pp cells E0 (if t = true then Pt else Pp) us ∧ ∀ j u, us[j]? = some u → w.cell? (A.add j) = some u)
  | .fn f caps, ρ, Pt, v => ∃ us : Array Value, v = .func (.func f) #[] us ∧ VRsi w Pp caps ρ Pt us.toList
  | .nili, _, _, v => v = .nilIface
  | .ifc, _, _, v => ∃ t x, v = .iface t x
  | .un, _, _, v => v = undef
  | .dk k, _, _, v => k = 0 ∧ ∃ b n c, v = .slice b n c
  | .agg cs, ρ, Pt, v => ∃ us : Array Value, v = .agg us ∧ VRsi w Pp cs ρ Pt us.toList
  | .tup cs, ρ, Pt, v => ∃ us : Array Value, v = .tuple us ∧ VRsi w Pp cs ρ Pt us.toList
def VRsi (w : World) (Pp : Nat → Prop) : List GV → Map → (Nat → Prop) → List Value → Prop
  | [], _, _, us => us = []
  | g :: gs, ρ, Pt, us => ∃ u us', us = u :: us' ∧ VRi w Pp g ρ Pt u ∧ VRsi w Pp gs ρ Pt us'
end
abbrev VR (w : World) (ρ : Map) (Pp : Nat → Prop) (g : GV) (Pt : Nat → Prop) (v : Value) : Prop := VRi w Pp g ρ Pt v
abbrev VRs (w : World) (ρ : Map) (Pp : Nat → Prop) (g : List GV) (Pt : Nat → Prop) (v : List Value) : Prop := VRsi w Pp g ρ Pt v

/-- What holds on when memory goes on. -/
structure Keep (w : World) (ρ : Map) (Pp : Nat → Prop) (w' : World) (ρ' : Map) (Pp' : Nat → Prop) : Prop where
  rsz : ∀ c R, rsz w c = some R → rsz w' c = some R
  rho : ∀ i n loc, ρ i n = some loc → ρ' i n = some loc
  pp : ∀ c, Pp c → Pp' c

theorem Keep.refl (w : World) (ρ : Map) (Pp : Nat → Prop) : Keep w ρ Pp w ρ Pp := ⟨fun _ _ h => h, fun _ _ _ h => h, fun _ h => h⟩
theorem Keep.trans {w w1 w2 : World} {ρ ρ1 ρ2 : Map} {Pp P1 P2 : Nat → Prop} (h : Keep w ρ Pp w1 ρ1 P1) (k : Keep w1 ρ1 P1 w2 ρ2 P2) : Keep w ρ Pp w2 ρ2 P2 :=
  ⟨fun c R e => k.rsz c R (h.rsz c R e), fun i n l e => k.rho i n l (h.rho i n l e), fun c e => k.pp c (h.pp c e)⟩

theorem Keep.e0 {w w' : World} {ρ ρ' : Map} {Pp Pp' : Nat → Prop} (h : Keep w ρ Pp w' ρ' Pp') (σ : Map) : Keep w E0 Pp w' σ Pp' := ⟨h.rsz, fun _ _ _ e => by simp [E0] at e, h.pp⟩

theorem cell_of_heap {w w' : World} {A : Addr} (h : w'.heap[A.block]? = w.heap[A.block]?) : w'.cell? A = w.cell? A := by
  unfold World.cell?
  rw [h]

theorem add_block (A : Addr) (j : Nat) : (A.add j).block = A.block := by unfold Addr.add; split <;> rfl

mutual
theorem VRi_mono {w w' : World} {Pp Pp' : Nat → Prop} : ∀ (g : GV) (ρ ρ' : Map) (hk : Keep w ρ Pp w' ρ' Pp') (Pt Pt' : Nat → Prop) (v : Value), (∀ c, Pt c → Pt' c ∨ Pp' c) → (∀ c, Pp c ∨ Pt c → w'.heap[c]? = w.heap[c]?) → VRi w Pp g ρ Pt v → VRi w' Pp' g ρ' Pt' v
  | .int _ _, _, _, _, _, _, _, _, _, h => h
  | .bool _, _, _, _, _, _, _, _, _, h => h
  | .str _, _, _, _, _, _, _, _, _, h => h
  | .nilp, _, _, _, _, _, _, _, _, h => h
  | .nils, _, _, _, _, _, _, _, _, h => h
  | .emp, _, _, _, _, _, _, _, _, h => h
  | .nili, _, _, _, _, _, _, _, _, h => h
  | .ifc, _, _, _, _, _, _, _, _, h => h
  | .un, _, _, _, _, _, _, _, _, h => h
  | .dk _, _, _, _, _, _, _, _, _, h => h
  | .ptr i off tot, ρ, ρ', hk, _, _, v, _, _, h => by
    obtain ⟨c, sh, h1, h2⟩ := h
    exact ⟨c, sh, hk.rho _ _ _ h1, h2⟩
  | .sl i off len cap es, ρ, ρ', hk, _, _, v, _, _, h => by
    obtain ⟨c, sh, A, cap', h1, h2, h3, h4, h5⟩ := h
    refine ⟨c, sh, A, cap', hk.rho _ _ _ h1, h2, h3, h4, ?_⟩
    rcases h5 with h5 | ⟨h5, R, h6, h7⟩
    · exact .inl h5
    · exact .inr ⟨h5, R, hk.rsz _ _ h6, h7⟩
  | .fp t cells, ρ, ρ', hk, Pt, Pt', v, ht, hb, h => by
    obtain ⟨A, h1, h2⟩ := h
    refine ⟨A, h1, fun hc => ?_⟩
    obtain ⟨h3, us, h4, h5⟩ := h2 hc
    have hbl : w'.heap[A.block]? = w.heap[A.block]? := hb _ (by by_cases c : t = true <;> simp [c] at h3 <;> first | exact h3.symm | exact .inl h3)
    refine ⟨by by_cases c : t = true <;> simp [c] at h3 ⊢ <;> first | exact h3.elim (fun e => ht _ e) (fun e => .inr (hk.pp _ e)) | exact hk.pp _ h3, us, ?_, fun j u hj => ?_⟩
    · exact VRsi_mono cells _ _ (hk.e0 _) _ _ us (fun c hc => by by_cases e : t = true <;> simp [e] at hc ⊢ <;> first | exact ht _ hc | exact .inl (hk.pp _ hc) | exact hk.pp _ hc) (fun c hc => hb c (by by_cases e : t = true <;> simp [e] at hc <;> simp [hc])) h4
    · rw [cell_of_heap (w := w) (by rw [add_block]; exact hbl)]
      exact h5 j u hj
  | .fz t n es cells, ρ, ρ', hk, Pt, Pt', v, ht, hb, h => by
    rcases h with h | ⟨A, cap', h1, h1a, h1b, h2⟩
    · exact .inl h
    refine .inr ⟨A, cap', h1, h1a, h1b, fun hc => ?_⟩
    obtain ⟨h3, us, h4, h5⟩ := h2 hc
    have hbl : w'.heap[A.block]? = w.heap[A.block]? := hb _ (by by_cases c : t = true <;> simp [c] at h3 <;> first | exact h3.symm | exact .inl h3)
    refine ⟨by by_cases c : t = true <;> simp [c] at h3 ⊢ <;> first | exact h3.elim (fun e => ht _ e) (fun e => .inr (hk.pp _ e)) | exact hk.pp _ h3, us, ?_, fun j u hj => ?_⟩
    · exact VRsi_mono cells _ _ (hk.e0 _) _ _ us (fun c hc => by by_cases e : t = true <;> simp [e] at hc ⊢ <;> first | exact ht _ hc | exact .inl (hk.pp _ hc) | exact hk.pp _ hc) (fun c hc => hb c (by by_cases e : t = true <;> simp [e] at hc <;> simp [hc])) h4
    · rw [cell_of_heap (w := w) (by rw [add_block]; exact hbl)]
      exact h5 j u hj
  | .fn f caps, ρ, ρ', hk, _, _, v, ht, hb, h => by
    obtain ⟨us, h1, h2⟩ := h
    exact ⟨us, h1, VRsi_mono caps _ _ hk _ _ _ ht hb h2⟩
  | .agg cs, ρ, ρ', hk, _, _, v, ht, hb, h => by
    obtain ⟨us, h1, h2⟩ := h
    exact ⟨us, h1, VRsi_mono cs _ _ hk _ _ _ ht hb h2⟩
  | .tup cs, ρ, ρ', hk, _, _, v, ht, hb, h => by
    obtain ⟨us, h1, h2⟩ := h
    exact ⟨us, h1, VRsi_mono cs _ _ hk _ _ _ ht hb h2⟩
theorem VRsi_mono {w w' : World} {Pp Pp' : Nat → Prop} : ∀ (gs : List GV) (ρ ρ' : Map) (hk : Keep w ρ Pp w' ρ' Pp') (Pt Pt' : Nat → Prop) (us : List Value), (∀ c, Pt c → Pt' c ∨ Pp' c) → (∀ c, Pp c ∨ Pt c → w'.heap[c]? = w.heap[c]?) → VRsi w Pp gs ρ Pt us → VRsi w' Pp' gs ρ' Pt' us
  | [], _, _, _, _, _, _, _, _, h => h
  | g :: gs, ρ, ρ', hk, _, _, us, ht, hb, h => by
    obtain ⟨u, us', h1, h2, h3⟩ := h
    exact ⟨u, us', h1, VRi_mono g _ _ hk _ _ u ht hb h2, VRsi_mono gs _ _ hk _ _ us' ht hb h3⟩
end

theorem VR_mono {w w' : World} {ρ ρ' : Map} {Pp Pp' : Nat → Prop} (hk : Keep w ρ Pp w' ρ' Pp') (g : GV) (Pt Pt' : Nat → Prop) (v : Value) (ht : ∀ c, Pt c → Pt' c ∨ Pp' c) (hb : ∀ c, Pp c ∨ Pt c → w'.heap[c]? = w.heap[c]?) (h : VR w ρ Pp g Pt v) : VR w' ρ' Pp' g Pt' v := VRi_mono g ρ ρ' hk Pt Pt' v ht hb h
theorem VRs_mono {w w' : World} {ρ ρ' : Map} {Pp Pp' : Nat → Prop} (hk : Keep w ρ Pp w' ρ' Pp') (gs : List GV) (Pt Pt' : Nat → Prop) (us : List Value) (ht : ∀ c, Pt c → Pt' c ∨ Pp' c) (hb : ∀ c, Pp c ∨ Pt c → w'.heap[c]? = w.heap[c]?) (h : VRs w ρ Pp gs Pt us) : VRs w' ρ' Pp' gs Pt' us := VRsi_mono gs ρ ρ' hk Pt Pt' us ht hb h

section
variable {w : World} {ρ : Map} {Pp Pt : Nat → Prop}

theorem VRs_len : ∀ {gs : List GV} {us : List Value}, VRs w ρ Pp gs Pt us → us.length = gs.length
  | [], _, h => by simp [VRs, VRsi] at h; simp [h]
  | g :: gs, us, h => by
    obtain ⟨u, us', rfl, _, h3⟩ := h
    simp [VRs_len h3]
theorem VRs_get : ∀ {gs : List GV} {us : List Value}, VRs w ρ Pp gs Pt us → ∀ (j : Nat) (g : GV), gs[j]? = some g → ∃ u, us[j]? = some u ∧ VR w ρ Pp g Pt u
  | [], _, _, j, g, e => by simp at e
  | g :: gs, us, h, j, g', e => by
    obtain ⟨u, us', rfl, h2, h3⟩ := h
    cases j with
    | zero => simp at e; subst e; exact ⟨u, rfl, h2⟩
    | succ j => simpa using VRs_get h3 j g' (by simpa using e)
theorem VRs_of : ∀ {gs : List GV} {us : List Value}, us.length = gs.length → (∀ (j : Nat) (g : GV) (u : Value), gs[j]? = some g → us[j]? = some u → VR w ρ Pp g Pt u) → VRs w ρ Pp gs Pt us
  | [], us, hl, _ => by simp at hl; simp [VRs, VRsi, hl]
  | g :: gs, [], hl, _ => by simp at hl
  | g :: gs, u :: us, hl, h => ⟨u, us, rfl, h 0 g u rfl rfl, VRs_of (by simpa using hl) (fun j g u e1 e2 => h (j + 1) g u (by simpa using e1) (by simpa using e2))⟩
theorem VRs_append {gs gs' : List GV} {us us' : List Value} (h : VRs w ρ Pp gs Pt us) (h' : VRs w ρ Pp gs' Pt us') : VRs w ρ Pp (gs ++ gs') Pt (us ++ us') := by
  induction gs generalizing us with
  | nil => simp [VRs, VRsi] at h; simpa [h] using h'
  | cons g gs ih =>
    obtain ⟨u, us1, rfl, h2, h3⟩ := h
    exact ⟨u, us1 ++ us', rfl, h2, ih h3⟩
theorem VRs_take {gs : List GV} {us : List Value} (n : Nat) (h : VRs w ρ Pp gs Pt us) : VRs w ρ Pp (gs.take n) Pt (us.take n) := by
  have hl := VRs_len h
  refine VRs_of (by simp [hl]) fun j g u e1 e2 => ?_
  rw [List.getElem?_take] at e1 e2
  split at e1
  · rename_i hj
    rw [if_pos hj] at e2
    obtain ⟨u', h1, h2⟩ := VRs_get h j g e1
    rw [h1] at e2
    cases e2
    exact h2
  · cases e1
theorem VRs_drop {gs : List GV} {us : List Value} (n : Nat) (h : VRs w ρ Pp gs Pt us) : VRs w ρ Pp (gs.drop n) Pt (us.drop n) := by
  have hl := VRs_len h
  refine VRs_of (by simp [hl]) fun j g u e1 e2 => ?_
  rw [List.getElem?_drop] at e1 e2
  obtain ⟨u', h1, h2⟩ := VRs_get h _ g e1
  rw [h1] at e2
  cases e2
  exact h2

theorem VR_ofC {v : Value} {g : GV} (h : ofC v = some g) : VR w ρ Pp g Pt v := by
  unfold ofC at h
  split at h <;> first | (cases h; simp [VR, VRi]) | cases h
theorem VRs_ofC : ∀ {vs : List Value} {gs : List GV}, vs.mapM ofC = some gs → VRs w ρ Pp gs Pt vs
  | [], gs, h => by simp at h; subst h; simp [VRs, VRsi]
  | v :: vs, gs, h => by
    simp only [List.mapM_cons, Option.bind_eq_bind, Option.bind_eq_some_iff, Option.pure_def, Option.some.injEq] at h
    obtain ⟨g, h1, gs', h2, rfl⟩ := h
    exact ⟨v, vs, rfl, VR_ofC h1, VRs_ofC h2⟩
theorem VR_ofV {v : Value} {g : GV} (h : ofV v = some g) : VR w ρ Pp g Pt v := by
  unfold ofV at h
  split at h
  · rename_i cs
    rw [Option.map_eq_some_iff] at h
    obtain ⟨gs, h1, rfl⟩ := h
    exact ⟨cs, rfl, VRs_ofC h1⟩
  · exact VR_ofC h

/-- A value's cells, in both machines. -/
theorem VR_cells {g : GV} {v : Value} (h : VR w ρ Pp g Pt v) : VRs w ρ Pp g.cells Pt v.cells.toList := by
  cases g with
  | agg cs =>
    obtain ⟨us, rfl, h2⟩ := h
    exact h2
  | int k n => simp only [VR, VRi] at h; subst h; exact ⟨_, [], rfl, rfl, rfl⟩
  | bool k => simp only [VR, VRi] at h; subst h; exact ⟨_, [], rfl, rfl, rfl⟩
  | str k => simp only [VR, VRi] at h; subst h; exact ⟨_, [], rfl, rfl, rfl⟩
  | nilp => simp only [VR, VRi] at h; subst h; exact ⟨_, [], rfl, rfl, rfl⟩
  | nils => simp only [VR, VRi] at h; subst h; exact ⟨_, [], rfl, rfl, rfl⟩
  | nili => simp only [VR, VRi] at h; subst h; exact ⟨_, [], rfl, rfl, rfl⟩
  | un => simp only [VR, VRi] at h; subst h; exact ⟨_, [], rfl, rfl, rfl⟩
  | ptr i off tot =>
    have h' := h
    obtain ⟨c, sh, h1, rfl⟩ := h
    exact ⟨_, [], rfl, h', rfl⟩
  | emp =>
    have h' := h
    rcases h with rfl | ⟨c, rfl⟩ <;> exact ⟨_, [], rfl, h', rfl⟩
  | ifc =>
    have h' := h
    obtain ⟨c, x, rfl⟩ := h
    exact ⟨_, [], rfl, h', rfl⟩
  | dk k =>
    have h' := h
    obtain ⟨_, b, n, c, rfl⟩ := h
    exact ⟨_, [], rfl, h', rfl⟩
  | fp t cells =>
    have h' := h
    obtain ⟨c, rfl, _⟩ := h
    exact ⟨_, [], rfl, h', rfl⟩
  | sl i off len cap es =>
    have h' := h
    obtain ⟨c, sh, A, cap', _, rfl, _⟩ := h
    exact ⟨_, [], rfl, h', rfl⟩
  | fz t n es cells =>
    have h' := h
    rcases h with ⟨_, _, _, rfl⟩ | ⟨A, cap', rfl, _⟩ <;> exact ⟨_, [], rfl, h', rfl⟩
  | fn f caps =>
    have h' := h
    obtain ⟨us, rfl, _⟩ := h
    exact ⟨_, [], rfl, h', rfl⟩
  | tup vs =>
    have h' := h
    obtain ⟨us, rfl, _⟩ := h
    exact ⟨_, [], rfl, h', rfl⟩

theorem isCell_one {g : GV} {v : Value} (h : VR w ρ Pp g Pt v) (hc : g.isCell = true) : v.oneCell' = true := by
  cases g with
  | agg cs => simp [GV.isCell] at hc
  | tup cs => simp [GV.isCell] at hc
  | un => simp [GV.isCell] at hc
  | dk k => simp [GV.isCell] at hc
  | int k n => simp only [VR, VRi] at h; subst h; rfl
  | bool k => simp only [VR, VRi] at h; subst h; rfl
  | str k => simp only [VR, VRi] at h; subst h; rfl
  | nilp => simp only [VR, VRi] at h; subst h; rfl
  | nils => simp only [VR, VRi] at h; subst h; rfl
  | nili => simp only [VR, VRi] at h; subst h; rfl
  | ptr i off tot => obtain ⟨c, sh, h1, rfl⟩ := h; rfl
  | emp => rcases h with rfl | ⟨c, rfl⟩ <;> rfl
  | ifc => obtain ⟨c, x, rfl⟩ := h; rfl
  | fp t cells => obtain ⟨c, rfl, _⟩ := h; rfl
  | sl i off len cap es => obtain ⟨c, sh, A, cap', _, rfl, _⟩ := h; rfl
  | fz t n es cells => rcases h with ⟨_, _, _, rfl⟩ | ⟨A, cap', rfl, _⟩ <;> rfl
  | fn f caps => obtain ⟨us, rfl, _⟩ := h; rfl
end

/-- The world in which the law was called is there still. -/
structure GL (w : World) (Pp : Nat → Prop) : Prop where
  base : ∃ W0, Base W0 ∧ (∀ c, c < W0.heap.size → Pp c) ∧ Below W0.heap.size W0 w
  gl : ∀ g cells, globs g = some cells → cells ≠ [] ∧ VR w E0 Pp (.fp false cells) (fun _ => False) (.pointer (some ⟨g, 0, none⟩))
theorem GL.mono {w w' : World} {ρ ρ' : Map} {Pp Pp' : Nat → Prop} (h : GL w Pp) (hk : Keep w ρ Pp w' ρ' Pp') (ho : w'.os = w.os) (ht : w'.tape = w.tape) (hu : w'.output = w.output) (hs : w.heap.size ≤ w'.heap.size) (hb : ∀ c, Pp c → w'.heap[c]? = w.heap[c]?) : GL w' Pp' := by
  refine ⟨?_, fun g cells e => ⟨(h.gl g cells e).1, VR_mono (hk.e0 E0) _ _ _ _ (fun _ h => .inl h) (fun c hc => hb c (hc.resolve_right id)) (h.gl g cells e).2⟩⟩
  obtain ⟨W0, h1, h2, h3⟩ := h.base
  exact ⟨W0, h1, fun c hc => hk.pp c (h2 c hc), ho.trans h3.os, ht.trans h3.tape, hu.trans h3.output, Nat.le_trans h3.size hs, fun c hc => (hb c (h2 c hc)).trans (h3.block c hc)⟩
theorem GL.start {W : World} (hb : Base W) (h : ∀ g, globs g = Option.none) : GL W (fun c => c < W.heap.size) :=
  ⟨⟨W, hb, fun _ h => h, Below.refl _ _⟩, fun g cells e => by rw [h g] at e; cases e⟩

/-- The cells of a block of this machine lie at loc. -/
def BR (w : World) (ρ : Map) (Pp Pt : Nat → Prop) (cs : List GV) (loc : Nat × Nat) : Prop :=
  ∃ rc ty lo hi, w.heap[loc.1]? = some (.cells rc ty (lo, hi)) ∧ loc.2 + cs.length ≤ rc.size ∧ (∀ o, o < rc.size → ¬(lo ≤ o ∧ o < hi)) ∧
    ∀ j g, cs[j]? = some g → ∃ u, rc[loc.2 + j]? = some u ∧ VR w ρ Pp g Pt u

/-- Block i, if there is one, lies somewhere, in what may be written. -/
def HB (w : World) (ρ : Map) (Pp Pt : Nat → Prop) (h : Heap) (i : Nat) : Prop :=
  ∀ cs, h[i]? = some cs → (∃ loc, ρ i cs.length = some loc ∧ BR w ρ Pp Pt cs loc ∧ ¬ Pp loc.1 ∧ ¬ Pt loc.1) ∧ ∀ m, cs.length < m → ρ i m = none

/-- Where block i now lies. -/
def At (ρ : Map) (h : Heap) (i : Nat) (c : Nat) : Prop := ∃ cs loc, h[i]? = some cs ∧ ρ i cs.length = some loc ∧ loc.1 = c

/-- A step of the other machine that tells a step of this one: Pt stays; lg: which blocks were read, which written. -/
structure Step (Pt : Nat → Prop) (w : World) (ρ : Map) (Pp : Nat → Prop) (h : Heap) (lg : Lg) (w' : World) (ρ' : Map) (Pp' : Nat → Prop) (h' : Heap) : Prop where
  os : w'.os = w.os
  tape : w'.tape = w.tape
  output : w'.output = w.output
  size : w.heap.size ≤ w'.heap.size
  keep : Keep w ρ Pp w' ρ' Pp'
  kept : ∀ c, c < w.heap.size → (∀ i, i ∈ lg.w → ¬ At ρ h i c) → w'.heap[c]? = w.heap[c]?
  ppnew : ∀ c, Pp' c → Pp c ∨ (w.heap.size ≤ c ∧ c < w'.heap.size)
  rhoold : ∀ i n, (i < h.length ∧ i ∉ lg.w) ∨ h'.length ≤ i → ρ' i n = ρ i n
  hlen : h.length ≤ h'.length
  hkeep : ∀ i, i < h.length → i ∉ lg.w → h'[i]? = h[i]?
  blocks : ∀ i, (i ∈ lg.w ∨ (h.length ≤ i ∧ i < h'.length)) → HB w' ρ' Pp' Pt h' i
  fresh : ∀ i c, (i ∈ lg.w ∨ (h.length ≤ i ∧ i < h'.length)) → At ρ' h' i c → (w.heap.size ≤ c ∧ c < w'.heap.size) ∨ At ρ h i c
  inj : ∀ i j c, (h.length ≤ i ∧ i < h'.length ∨ i ∈ lg.w) → (h.length ≤ j ∧ j < h'.length ∨ j ∈ lg.w) → i ≠ j → At ρ' h' i c → At ρ' h' j c → c < w.heap.size

end Go.Proofs.Ytolhjndfplfjpaa.G
