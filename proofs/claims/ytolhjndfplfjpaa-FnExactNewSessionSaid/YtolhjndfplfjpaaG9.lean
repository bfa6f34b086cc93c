/- The elements of a slice; builtins that change nothing. -/
import Derived.Test.YtolhjndfplfjpaaG8
import Derived.Laws.BytesArg
namespace Go.Proofs.Ytolhjndfplfjpaa.G
open Go.RowKit
set_option linter.unusedVariables false
set_option linter.unusedSimpArgs false

section
variable {P : Program} {Pt Pp : Nat → Prop} {w : World} {ρ : Map} {h : Heap} {a : Act} {o : Oper} {σ : GS} {C : Cfg} {call : GCall}

theorem gcells_run {es n : Nat} {v : GV} {cs : List GV} {r : List Nat} {u : Value} (e : gcells h es v = some (n, cs, r)) (hv : VR w ρ Pp v Pt u) (hb : ∀ i, i ∈ r → HB w ρ Pp Pt h i) :
    (u = .slice none 0 0 ∧ n = 0 ∧ cs = [] ∧ ∀ s, v ≠ .str s) ∨
    (∃ A cap' us, u = .slice (some A) n cap' ∧ n ≤ cap' ∧ VRs w ρ Pp cs Pt us ∧ cs.length = n * es ∧ ∀ (j : Nat) (u : Value), us[j]? = some u → w.cell? (A.add j) = some u) ∨
    (∃ s, u = .string s ∧ v = .str s ∧ n = s.size ∧ es = 1 ∧ cs = s.toList.map fun b => .int .u8 b.toNat) := by
  unfold gcells at e
  split at e
  · rename_i i off len cap es'
    simp only [Option.bind_eq_bind, Option.bind_eq_some_iff] at e
    obtain ⟨cs0, h1, e⟩ := e
    split at e
    · rename_i hc
      obtain ⟨rfl, hle⟩ := hc
      simp only [Option.some.injEq, Prod.mk.injEq] at e
      obtain ⟨rfl, rfl, rfl⟩ := e
      obtain ⟨c, sh, A, cap', h6, rfl, h8, h9, h10⟩ := hv
      have hlen := (cellsAt_eq h1).2
      have hmul : len * es' ≤ cap * es' := Nat.mul_le_mul_right _ hle
      obtain ⟨us, h11, h12⟩ := BR_cells (cells_at h1 (hb i (by simp)) h6).1 off (len * es') (by omega)
      refine .inr (.inl ⟨A, cap', us, rfl, by omega, h11, by simp; omega, fun j u hj => ?_⟩)
      rcases h10 with h10 | ⟨rfl, _⟩
      · have hl := VRs_len h11
        have := (List.getElem?_eq_some_iff.1 hj).1
        have : len = 0 := by omega
        subst this
        simp at hl
        subst hl
        simp at hj
      · exact h12 j u hj
    · cases e
  · rename_i tg n0 es0 cells0
    split at e
    · rename_i hn0
      subst hn0
      simp only [Option.some.injEq, Prod.mk.injEq] at e
      obtain ⟨rfl, rfl, rfl⟩ := e
      rcases hv with ⟨_, _, _, rfl⟩ | ⟨A, cap', rfl, h8, h9, h10⟩
      · exact .inl ⟨rfl, rfl, rfl, by simp⟩
      · exact .inr (.inl ⟨A, cap', [], rfl, h8, by simp [VRs, VRsi], by simp, fun j u hj => by simp at hj⟩)
    split at e
    · rename_i hn0 hes
      subst hes
      simp only [Option.some.injEq, Prod.mk.injEq] at e
      obtain ⟨rfl, rfl, rfl⟩ := e
      obtain ⟨A, cap', rfl, h8, h9, h10⟩ := hv.resolve_left (fun h => hn0 h.1)
      by_cases hc : cells0 = []
      · subst hc
        exact .inr (.inl ⟨A, cap', [], rfl, h8, by simp [VRs, VRsi], h9, fun j u hj => by simp at hj⟩)
      · obtain ⟨h11, us, h12, h13⟩ := h10 hc
        refine .inr (.inl ⟨A, cap', us, rfl, h8, ?_, h9, h13⟩)
        refine VRs_mono ((Keep.refl w ρ Pp).e0 ρ) _ _ _ _ (fun c hc => ?_) (fun c _ => rfl) h12
        by_cases e : tg = true <;> simp [e] at hc <;> simp [hc]
    · cases e
  · simp only [Option.some.injEq, Prod.mk.injEq] at e
    obtain ⟨rfl, rfl, rfl⟩ := e
    simp only [VR, VRi] at hv
    exact .inl ⟨hv, rfl, rfl, by simp⟩
  · simp only [Option.some.injEq, Prod.mk.injEq] at e
    obtain ⟨rfl, rfl, rfl⟩ := e
    rcases hv with rfl | ⟨A, rfl⟩
    · exact .inl ⟨rfl, rfl, rfl, by simp⟩
    · exact .inr (.inl ⟨A, 0, [], rfl, by omega, by simp [VRs, VRsi], by simp, fun j u hj => by simp at hj⟩)
  · split at e
    · rename_i hes
      simp only [Option.some.injEq, Prod.mk.injEq] at e
      obtain ⟨rfl, rfl, rfl⟩ := e
      simp only [VR, VRi] at hv
      exact .inr (.inr ⟨_, hv, rfl, rfl, hes, rfl⟩)
    · cases e
  · cases e

theorem VRs_ints {k : IntKind} : ∀ {cs : List GV} {us : List Value} {ns : List Int}, VRs w ρ Pp cs Pt us → cs.mapM gbyte = some ns → us = ns.map (Value.int .u8)
  | [], us, ns, hv, e => by simp at e; subst e; simpa [VRs, VRsi] using hv
  | c :: cs, us, ns, hv, e => by
    simp only [List.mapM_cons, Option.bind_eq_bind, Option.bind_eq_some_iff, Option.pure_def, Option.some.injEq] at e
    obtain ⟨n, h1, ns', h2, rfl⟩ := e
    obtain ⟨u, us', rfl, h3, h4⟩ := hv
    have := VRs_ints (k := k) h4 h2
    subst this
    unfold gbyte at h1
    split at h1
    · cases h1
      simp only [VR, VRi] at h3
      subst h3
      rfl
    · cases h1

theorem VRs_mapM {l : List Operand} {gs : List GV} (e : l.mapM (eval σ) = some gs) (hx : ∀ x, x ∈ l → EV w ρ Pp Pt σ a x) : VRs w ρ Pp gs Pt (l.map a.eval) := by
  induction l generalizing gs with
  | nil => simp at e; subst e; simp [VRs, VRsi]
  | cons x l ih =>
    simp only [List.mapM_cons, Option.bind_eq_bind, Option.bind_eq_some_iff, Option.pure_def, Option.some.injEq] at e
    obtain ⟨g, h1, gs', h2, rfl⟩ := e
    exact ⟨_, _, rfl, hx x (by simp) _ h1, ih h2 (fun y hy => hx y (by simp [hy]))⟩

theorem fold_min : ∀ (gs : List GV) (us : List Value) (g r : GV) (u : Value), gs.foldlM gmin g = some r → VR w ρ Pp g Pt u → VRs w ρ Pp gs Pt us → ∃ z, (us.foldlM Builtin.min2 u).run P w = .ok z w ∧ VR w ρ Pp r Pt z
  | [], us, g, r, u, e, hg, hs => by
    simp [VRs, VRsi] at hs
    subst hs
    simp at e
    subst e
    exact ⟨u, rfl, hg⟩
  | y :: gs, us, g, r, u, e, hg, hs => by
    obtain ⟨v, vs, rfl, h1, h2⟩ := hs
    simp only [List.foldlM_cons, Option.bind_eq_bind, Option.bind_eq_some_iff] at e
    obtain ⟨m, h3, h4⟩ := e
    unfold gmin at h3
    split at h3
    · cases h3
      simp only [VR, VRi] at hg h1
      subst hg
      subst h1
      obtain ⟨z, h5, h6⟩ := fold_min gs vs _ r (.int _ _) h4 (by rfl) h2
      exact ⟨z, by simp only [List.foldlM_cons, Builtin.min2, Sem.run_bind, Sem.run_pure, Result.andThen_ok]; exact h5, h6⟩
    · cases h3
theorem fold_max : ∀ (gs : List GV) (us : List Value) (g r : GV) (u : Value), gs.foldlM gmax g = some r → VR w ρ Pp g Pt u → VRs w ρ Pp gs Pt us → ∃ z, (us.foldlM Builtin.max2 u).run P w = .ok z w ∧ VR w ρ Pp r Pt z
  | [], us, g, r, u, e, hg, hs => by
    simp [VRs, VRsi] at hs
    subst hs
    simp at e
    subst e
    exact ⟨u, rfl, hg⟩
  | y :: gs, us, g, r, u, e, hg, hs => by
    obtain ⟨v, vs, rfl, h1, h2⟩ := hs
    simp only [List.foldlM_cons, Option.bind_eq_bind, Option.bind_eq_some_iff] at e
    obtain ⟨m, h3, h4⟩ := e
    unfold gmax at h3
    split at h3
    · cases h3
      simp only [VR, VRi] at hg h1
      subst hg
      subst h1
      obtain ⟨z, h5, h6⟩ := fold_max gs vs _ r (.int _ _) h4 (by rfl) h2
      exact ⟨z, by simp only [List.foldlM_cons, Builtin.max2, Sem.run_bind, Sem.run_pure, Result.andThen_ok]; exact h5, h6⟩
    · cases h3

theorem exec_builtin {c : Call} {b : Builtin} (ho : o.op = .call c) (hc : c.callee = .builtin b) (ev : Operand → Value) :
    ∃ k, execOp ev o = builtin b c.argTypes o.type k (c.args.map ev) := by
  simp only [execOp, ho, resolve, hc, pure_bind, invoke]
  exact ⟨_, rfl⟩

theorem glen_run {v : GV} {n : Nat} {u : Value} (e : glen v = some n) (hn : ∀ s, v ≠ .str s) (hv : VR w ρ Pp v Pt u) : ∃ A c, u = .slice A n c := by
  unfold glen at e
  split at e
  · cases e; obtain ⟨c, sh, A, cap', h6, rfl, _⟩ := hv; exact ⟨_, _, rfl⟩
  · cases e; rcases hv with ⟨rfl, _, _, rfl⟩ | ⟨A, cap', rfl, _⟩ <;> exact ⟨_, _, rfl⟩
  · cases e; simp only [VR, VRi] at hv; exact ⟨_, _, hv⟩
  · cases e; rcases hv with rfl | ⟨A, rfl⟩ <;> exact ⟨_, _, rfl⟩
  · exact absurd rfl (hn _)
  · cases e

/-- len, cap, min, max. -/
theorem op_quiet {c : Call} {b : Builtin} {v : GV} {h' : Heap} {lg : Lg} (ho : o.op = .call c) (hc : c.callee = .builtin b) (hb : b = .len ∨ b = .cap ∨ b = .min ∨ b = .max) (hx : ∀ x, x ∈ c.args.toList → EV w ρ Pp Pt σ a x)
    (e : gop P C call (eval σ) o h = some (v, h', lg)) : OpTo P o a w (After Pt w ρ Pp h lg h' v) := by
  simp only [gop, ho, hc, Option.bind_eq_bind, Option.bind_eq_some_iff] at e
  obtain ⟨gs, h1, e⟩ := e
  have h2 := VRs_mapM h1 hx
  have hargs : (c.args.map a.eval).toList = c.args.toList.map a.eval := by simp
  have key : ∀ (x : Value), (∀ k, (builtin b c.argTypes o.type k (c.args.map a.eval)).run P w = .ok (.value x) w) → VR w ρ Pp v Pt x → lg = ⟨[], []⟩ → h' = h → OpTo P o a w (After Pt w ρ Pp h lg h' v) := by
    intro x e1 e2 e3 e4
    subst e3
    subst e4
    obtain ⟨k, hk⟩ := exec_builtin ho hc a.eval
    exact .same (u := x) (by rw [hk]; exact e1 k) e2
  unfold gbuiltin at e
  split at e
  · simp only [Option.bind_eq_bind, Option.bind_eq_some_iff] at e
    obtain ⟨t, ht, e⟩ := e
    obtain ⟨u, us, h3, h4, h5⟩ := h2
    simp only [VRs, VRsi] at h5
    subst h5
    have e0 : (c.args.map a.eval)[0]? = some u := by rw [← Array.getElem?_toList, hargs, h3]; rfl
    split at e
    · rename_i s hu
      simp only [Option.some.injEq, Prod.mk.injEq] at e
      obtain ⟨rfl, rfl, rfl⟩ := e
      simp only [VR, VRi] at h4
      subst h4
      exact key _ (by intro k; simp [builtin, Builtin.len_, ht, e0, run_underlying hu]; rfl) (by simp [VR, VRi, goInt]) rfl rfl
    · rename_i hu
      split at e
      · cases e
      · rename_i hns
        simp only [Option.bind_eq_some_iff, Option.some.injEq, Prod.mk.injEq] at e
        obtain ⟨n, hn, rfl, rfl, rfl⟩ := e
        obtain ⟨A, cp, rfl⟩ := glen_run hn (fun s e => hns s e) h4
        exact key _ (by intro k; simp [builtin, Builtin.len_, ht, e0, run_underlying hu]; rfl) (by simp [VR, VRi, goInt]) rfl rfl
    · rename_i hu
      simp only [Option.some.injEq, Prod.mk.injEq] at e
      obtain ⟨rfl, rfl, rfl⟩ := e
      exact key _ (by intro k; simp [builtin, Builtin.len_, ht, e0, run_underlying hu]; rfl) (by simp [VR, VRi, goInt]) rfl rfl
    · cases e
  · simp only [Option.bind_eq_bind, Option.bind_eq_some_iff] at e
    obtain ⟨t, ht, e⟩ := e
    obtain ⟨u, us, h3, h4, h5⟩ := h2
    simp only [VRs, VRsi] at h5
    subst h5
    have e0 : (c.args.map a.eval)[0]? = some u := by rw [← Array.getElem?_toList, hargs, h3]; rfl
    split at e
    · rename_i hu
      simp only [Option.some.injEq, Prod.mk.injEq] at e
      obtain ⟨rfl, rfl, rfl⟩ := e
      simp only [VR, VRi] at h4
      subst h4
      exact key _ (by intro k; simp [builtin, Builtin.cap_, ht, e0, run_underlying hu]; rfl) (by simp [VR, VRi, goInt]) rfl rfl
    · rename_i hu
      simp only [Option.some.injEq, Prod.mk.injEq] at e
      obtain ⟨rfl, rfl, rfl⟩ := e
      rcases h4 with rfl | ⟨A, rfl⟩ <;>
      exact key _ (by intro k; simp [builtin, Builtin.cap_, ht, e0, run_underlying hu]; rfl) (by simp [VR, VRi, goInt]) rfl rfl
    · cases e
  · simp only [Option.bind_eq_bind, Option.bind_eq_some_iff, Option.some.injEq, Prod.mk.injEq] at e
    obtain ⟨r, hr, rfl, rfl, rfl⟩ := e
    obtain ⟨u, us, h3, h4, h5⟩ := h2
    obtain ⟨z, h6, h7⟩ := fold_min (P := P) _ us _ _ u hr h4 h5
    exact key z (by intro k; simp only [builtin, Builtin.min_, hargs, h3, Sem.run_bind, h6, Result.andThen_ok, Sem.run_pure]) h7 rfl rfl
  · simp only [Option.bind_eq_bind, Option.bind_eq_some_iff, Option.some.injEq, Prod.mk.injEq] at e
    obtain ⟨r, hr, rfl, rfl, rfl⟩ := e
    obtain ⟨u, us, h3, h4, h5⟩ := h2
    obtain ⟨z, h6, h7⟩ := fold_max (P := P) _ us _ _ u hr h4 h5
    exact key z (by intro k; simp only [builtin, Builtin.max_, hargs, h3, Sem.run_bind, h6, Result.andThen_ok, Sem.run_pure]) h7 rfl rfl
  · simp at hb
  · simp at hb
  · simp at hb
  · cases e
end

end Go.Proofs.Ytolhjndfplfjpaa.G
