/- The operations that change nothing. -/
import Derived.Test.YtolhjndfplfjpaaG4
import Derived.Laws.StructEq
import Derived.Laws.BytesString
namespace Go.Proofs.Ytolhjndfplfjpaa.G
open Go.RowKit
set_option linter.unusedVariables false
set_option linter.unusedSimpArgs false

section
variable {P : Program} {Pt Pp : Nat → Prop} {w : World} {ρ : Map} {h : Heap}

theorem gload_run {t : TypeId} {g v : GV} {r : List Nat} {u : Value} (e : gload P h t g = some (v, r)) (hv : VR w ρ Pp g Pt u) (hb : ∀ i, i ∈ r → HB w ρ Pp Pt h i) :
    ∃ x, (Instr.loadAt t u).run P w = .ok x w ∧ VR w ρ Pp v Pt x := by
  unfold gload at e
  simp only [Option.bind_eq_bind, Option.bind_eq_some_iff] at e
  obtain ⟨b, hag, e⟩ := e
  cases b with
  | true =>
    simp only [if_true, Option.bind_eq_some_iff, Option.some.injEq, Prod.mk.injEq] at e
    obtain ⟨n, hn, ⟨cs, r'⟩, hr, rfl, rfl⟩ := e
    obtain ⟨A, us, rfl, h2, h3, h4⟩ := gread_run hr hv hb
    have hl := VRs_len h2
    refine ⟨.agg us.toArray, ?_, ⟨us.toArray, rfl, h2⟩⟩
    have := run_loadCells_list (P := P) w A us h4
    rw [hl, h3] at this
    simp [Instr.loadAt, Instr.sureAddr, loadVar, run_isAgg hag, run_sizeOf hn, this]
  | false =>
    simp only [Bool.false_eq_true, if_false, Option.bind_eq_some_iff] at e
    obtain ⟨⟨cs, r'⟩, hr, e⟩ := e
    split at e
    · rename_i v' heq
      simp only [Option.some.injEq, Prod.mk.injEq] at e
      obtain ⟨rfl, rfl⟩ := e
      dsimp only at heq
      subst heq
      obtain ⟨A, us, rfl, h2, h3, h4⟩ := gread_run hr hv hb
      obtain ⟨x, us', rfl, h5, h6⟩ := h2
      have h7 := h4 0 x rfl
      have h8 : A.add 0 = A := by simp [Addr.add]
      rw [h8] at h7
      refine ⟨x, ?_, h5⟩
      simp [Instr.loadAt, Instr.sureAddr, loadVar, run_isAgg hag, run_load, h7]
    · cases e

theorem gpart_run {t : TypeId} {cs : List GV} {off : Nat} {v : GV} {us : Array Value} (e : gpart P t cs off = some v) (hv : VRs w ρ Pp cs Pt us.toList) :
    ∃ x, (part t us off).run P w = .ok x w ∧ VR w ρ Pp v Pt x := by
  unfold gpart at e
  simp only [Option.bind_eq_bind, Option.bind_eq_some_iff] at e
  obtain ⟨b, hag, e⟩ := e
  cases b with
  | true =>
    simp only [if_true, Option.bind_eq_some_iff] at e
    obtain ⟨n, hn, e⟩ := e
    split at e
    · cases e
      refine ⟨.agg (us.extract off (off + n)), by simp [part, run_isAgg hag, run_sizeOf hn], ⟨_, rfl, ?_⟩⟩
      have := VRs_take n (VRs_drop off hv)
      have e2 : (us.extract off (off + n)).toList = (us.toList.drop off).take n := by
        simp [Array.toList_extract, List.extract_eq_take_drop]
      rw [e2]
      exact this
    · cases e
  | false =>
    simp only [Bool.false_eq_true, if_false] at e
    obtain ⟨x, h1, h2⟩ := VRs_get hv off v e
    refine ⟨x, ?_, h2⟩
    have h3 : us[off]? = some x := by simpa using h1
    simp [part, run_isAgg hag, h3]

/-- From one value of this machine the other one's, where the first tells it whole. -/
theorem geq_run : ∀ (d : Nat) (t : TypeId) (x y : GV) (b : Bool) (u v : Value) (w : World), geq P d t x y = some b → VR w ρ Pp x Pt u → VR w ρ Pp y Pt v → (Op.equalIn d t u v).run P w = .ok b w
  | 0, t, x, y, b, u, v, w, e, _, _ => by cases e
  | d + 1, t, x, y, b, u, v, w, e, hx, hy => by
    unfold geq at e
    split at e
    · rename_i hu; simp only [VR, VRi] at hx hy; subst hx; subst hy; cases e; simp [Op.equalIn, run_underlying hu]
    · rename_i hu
      split at e
      · rename_i hk; simp only [VR, VRi] at hx hy; subst hx; subst hy; subst hk; cases e; simp [Op.equalIn, run_underlying hu]
      · cases e
    · rename_i hu; simp only [VR, VRi] at hx hy; subst hx; subst hy; cases e; simp [Op.equalIn, run_underlying hu]
    · rename_i hu; simp only [VR, VRi] at hx hy; subst hx; subst hy; cases e; simp [Op.equalIn, run_underlying hu]
    · rename_i hu; simp only [VR, VRi] at hx; obtain ⟨c, sh, _, rfl⟩ := hy; subst hx; cases e; simp [Op.equalIn, run_underlying hu]
    · rename_i hu; simp only [VR, VRi] at hy; obtain ⟨c, sh, _, rfl⟩ := hx; subst hy; cases e; simp [Op.equalIn, run_underlying hu]
    · rename_i hu; simp only [VR, VRi] at hx; obtain ⟨A, rfl, _⟩ := hy; subst hx; cases e; simp [Op.equalIn, run_underlying hu]
    · rename_i hu; simp only [VR, VRi] at hy; obtain ⟨A, rfl, _⟩ := hx; subst hy; cases e; simp [Op.equalIn, run_underlying hu]
    · rename_i hu; simp only [VR, VRi] at hx hy; subst hx; subst hy; cases e; simp [Op.equalIn, run_underlying hu]
    · rename_i hu; simp only [VR, VRi] at hx; obtain ⟨c, sh, A, cap', _, rfl, _⟩ := hy; subst hx; cases e; simp [Op.equalIn, run_underlying hu]
    · rename_i hu; simp only [VR, VRi] at hx; obtain ⟨A, cap', rfl, _⟩ := hy.resolve_left (by simp); subst hx; cases e; simp [Op.equalIn, run_underlying hu]
    · rename_i hu; simp only [VR, VRi] at hy; obtain ⟨c, sh, A, cap', _, rfl, _⟩ := hx; subst hy; cases e; simp [Op.equalIn, run_underlying hu]
    · rename_i hu; simp only [VR, VRi] at hy; obtain ⟨A, cap', rfl, _⟩ := hx.resolve_left (by simp); subst hy; cases e; simp [Op.equalIn, run_underlying hu]
    · rename_i hu; simp only [VR, VRi] at hy; obtain ⟨A, cap', rfl, _⟩ := hx.resolve_left (by simp); subst hy; cases e; simp [Op.equalIn, run_underlying hu]
    · rename_i hu; simp only [VR, VRi] at hx hy; subst hx; subst hy; cases e; simp [Op.equalIn, run_underlying hu]
    · rename_i hu; simp only [VR, VRi] at hx; obtain ⟨t', x', rfl⟩ := hy; subst hx; cases e; simp [Op.equalIn, run_underlying hu]
    · rename_i hu; simp only [VR, VRi] at hy; obtain ⟨t', x', rfl⟩ := hx; subst hy; cases e; simp [Op.equalIn, run_underlying hu]
    · rename_i fs xs ys hu
      split at e
      · cases e
      · rename_i hst
        obtain ⟨us, rfl, hxs⟩ := hx
        obtain ⟨vs, rfl, hys⟩ := hy
        have hf : P.fieldsOf t = fs := by simp [Program.fieldsOf, hu]
        rw [run_equalIn_struct w d t us vs (by rw [hf]; exact hu) (by simpa using hst), hf]
        generalize fs.toList = l at e
        induction l generalizing b with
        | nil => cases e; simp [Op.eqFields]
        | cons f l ih =>
          unfold geqs at e
          unfold Op.eqFields
          split at e
          · rename_i hn
            simp only [Option.bind_eq_bind, Option.bind_eq_some_iff] at e
            obtain ⟨a, h1, b', h2, r, h3, e⟩ := e
            obtain ⟨p, h4, h5⟩ := gpart_run h1 hxs
            obtain ⟨q, h6, h7⟩ := gpart_run h2 hys
            have h8 := geq_run d f.type a b' r p q w h3 h5 h7
            rw [if_pos hn]
            simp only [Sem.run_bind, h4, h6, h8, Result.andThen_ok]
            cases r with
            | true =>
              simp only [Bool.not_true, Bool.false_eq_true, if_false]
              exact ih b (by simpa using e)
            | false =>
              simp only [Bool.false_eq_true, if_false, Option.some.injEq] at e
              subst e
              simp
          · rename_i hn
            rw [if_neg hn]
            exact ih b e
    · cases e

theorem ilt_eq (a b : Int) : ilt a b = decide (a < b) := by
  cases a <;> cases b <;> simp only [ilt]
  · rw [Bool.eq_iff_iff]; simp
  · symm; simp; omega
  · symm; simp; omega
  · rw [Bool.eq_iff_iff]; simp; omega

theorem gbin_run {op : BinOp} {t : TypeId} {x y r : GV} {u v : Value} (e : gbin P op t x y = some r) (hx : VR w ρ Pp x Pt u) (hy : VR w ρ Pp y Pt v) (xo yo : Operand) :
    ∃ z, (do eqGuard op t xo yo u v; binOp op t u v : Sem Value).run P w = .ok z w ∧ VR w ρ Pp r Pt z := by
  unfold gbin at e
  split at e
  · simp only [VR, VRi] at hx hy; subst hx; subst hy
    split at e
    · rename_i hb
      cases e
      refine ⟨_, ?_, rfl⟩
      simp [eqGuard, binOp, Op.shift, Int.not_lt.2 hb]
    · cases e
  · simp only [VR, VRi] at hx hy; subst hx; subst hy
    split at e
    · rename_i hb
      cases e
      refine ⟨_, ?_, rfl⟩
      simp [eqGuard, binOp, Op.shift, Int.not_lt.2 hb]
    · cases e
  · rename_i hn1 hn2
    simp only [VR, VRi] at hx hy; subst hx; subst hy
    split at e
    · rename_i hk
      subst hk
      split at e <;> first
        | (cases e; exact ⟨_, by simp [eqGuard, binOp, Op.intArith, Op.intBits, Op.intCmp, ilt_eq, ← decide_not, Int.not_lt, -Bool.not_eq_true], rfl⟩)
        | (split at e
           · cases e
           · rename_i hb
             cases e
             exact ⟨_, by simp [eqGuard, binOp, Op.intDiv, hb], rfl⟩)
        | cases e
    · cases e
  · rename_i a b
    simp only [VR, VRi] at hx hy; subst hx; subst hy
    cases op
    case add =>
      dsimp only at e
      split at e
      · rename_i hm
        cases e
        refine ⟨_, ?_, rfl⟩
        have hm' : ¬ (((a.size + b.size : Nat) : Int) > IntKind.i64.max) := by
          show ¬ (((a.size + b.size : Nat) : Int) > 9223372036854775807)
          simp only [maxLen] at hm
          omega
        simp only [eqGuard, binOp, Op.stringOp, hm', if_false]
        simp
      · cases e
    all_goals first
      | (cases e; exact ⟨_, by simp [eqGuard, binOp, Op.stringOp], rfl⟩)
      | cases e
  · cases e

theorem VR_int {x : GV} {k : IntKind} {n : Int} (h : VR w ρ Pp x Pt (.int k n)) : x = .int k n := by
  cases x <;> simp [VR, VRi, undef] at h <;> first | (obtain ⟨rfl, rfl⟩ := h; rfl) | skip
theorem VR_str {x : GV} {s : ByteArray} (h : VR w ρ Pp x Pt (.string s)) : x = .str s := by
  cases x <;> simp [VR, VRi, undef] at h <;> first | (subst h; rfl) | skip
theorem VR_nili {x : GV} (h : VR w ρ Pp x Pt .nilIface) : x = .nili := by
  cases x <;> simp [VR, VRi, undef] at h <;> rfl
theorem VR_agg {x : GV} {us : Array Value} (h : VR w ρ Pp x Pt (.agg us)) : ∃ cs, x = .agg cs := by
  cases x <;> simp [VR, VRi, undef] at h ⊢
theorem VR_float {x : GV} {k : FloatKind} {n : Nat} (h : VR w ρ Pp x Pt (.float k n)) : False := by
  cases x <;> simp [VR, VRi, undef] at h
theorem VR_complex {x : GV} {k : FloatKind} {n m : Nat} (h : VR w ρ Pp x Pt (.complex k n m)) : False := by
  cases x <;> simp [VR, VRi, undef] at h

theorem eqGuard_fine {op : BinOp} {t : TypeId} {x y : GV} {u v : Value} (xo yo : Operand) (e : gfine P t xo yo x y = true) (hx : VR w ρ Pp x Pt u) (hy : VR w ρ Pp y Pt v) :
    (eqGuard op t xo yo u v).run P w = .ok () w := by
  unfold eqGuard
  cases op <;> first
    | rfl
    | (simp only [Bool.not_true, Bool.false_eq_true, if_false, pure_bind]
       split
       · have := VR_nili ‹VR w ρ Pp x Pt .nilIface›; subst this
         have := VR_nili ‹VR w ρ Pp y Pt .nilIface›; subst this
         simp only [gfine] at e
         cases xo <;> cases yo <;> first | rfl | (simp at e)
       · obtain ⟨c1, rfl⟩ := VR_agg ‹VR w ρ Pp x Pt (.agg _)›
         obtain ⟨c2, rfl⟩ := VR_agg ‹VR w ρ Pp y Pt (.agg _)›
         simp only [gfine, Bool.not_eq_true'] at e
         simp [e]
       · simp)

theorem binOp_eql_of {t : TypeId} {u v : Value} (hi : ∀ k a k' b, u = .int k a → v = .int k' b → False) (hf : ∀ k a k' b, u = .float k a → v = .float k' b → False)
    (hc : ∀ k a a' k' b b', u = .complex k a a' → v = .complex k' b b' → False) (hs : ∀ a b, u = .string a → v = .string b → False) :
    binOp .eql t u v = (do let b ← Op.equal t u v; pure (.bool b)) ∧ binOp .neq t u v = (do let b ← Op.equal t u v; pure (.bool !b)) := by
  constructor <;>
  · unfold binOp
    split <;> first
      | exact (hi _ _ _ _ rfl rfl).elim
      | exact (hf _ _ _ _ rfl rfl).elim
      | exact (hc _ _ _ _ _ _ rfl rfl).elim
      | exact (hs _ _ rfl rfl).elim
      | rfl
      | contradiction
      | simp_all

theorem binOp_eq {op : BinOp} {t : TypeId} {x y : GV} {u v : Value} (xo yo : Operand) (e : gfine P t xo yo x y = true) (hx : VR w ρ Pp x Pt u) (hy : VR w ρ Pp y Pt v) (ho : op = .eql ∨ op = .neq) :
    binOp op t u v = (do let b ← Op.equal t u v; pure (.bool (if op = .eql then b else !b))) := by
  have := binOp_eql_of (t := t) (u := u) (v := v) (fun k a k' b e1 e2 => by
      subst e1; subst e2
      have h1 := VR_int hx; have h2 := VR_int hy; subst h1; subst h2; simp [gfine] at e)
    (fun k a k' b e1 e2 => by subst e1; exact VR_float hx)
    (fun k a a' k' b b' e1 e2 => by subst e1; exact VR_complex hx)
    (fun a b e1 e2 => by
      subst e1; subst e2
      have h1 := VR_str hx; have h2 := VR_str hy; subst h1; subst h2; simp [gfine] at e)
  rcases ho with rfl | rfl
  · rw [this.1]; simp
  · rw [this.2]; simp

theorem gbinop_run {op : BinOp} {t : TypeId} {x y r : GV} {u v : Value} (xo yo : Operand) (e : gbinop P op t xo yo x y = some r) (hx : VR w ρ Pp x Pt u) (hy : VR w ρ Pp y Pt v) :
    ∃ z, (do eqGuard op t xo yo u v; binOp op t u v : Sem Value).run P w = .ok z w ∧ VR w ρ Pp r Pt z := by
  unfold gbinop at e
  split at e
  · rename_i r' h1
    cases e
    exact gbin_run h1 hx hy xo yo
  · split at e
    · rename_i hf
      have key : ∀ b, geq P Op.maxDepth t x y = some b → (op = .eql ∨ op = .neq) →
          (do eqGuard op t xo yo u v; binOp op t u v : Sem Value).run P w = .ok (.bool (if op = .eql then b else !b)) w := by
        intro b hb ho
        have hq := geq_run Op.maxDepth t x y b u v w hb hx hy
        rw [Sem.run_bind, eqGuard_fine xo yo hf hx hy, Result.andThen_ok, binOp_eq xo yo hf hx hy ho]
        simp [Op.equal, hq]
      split at e
      · obtain ⟨b, h1, rfl⟩ := Option.map_eq_some_iff.1 e
        exact ⟨_, key b h1 (.inl rfl), by simp [VR, VRi]⟩
      · obtain ⟨b, h1, rfl⟩ := Option.map_eq_some_iff.1 e
        exact ⟨_, key b h1 (.inr rfl), by simp [VR, VRi]⟩
      · cases e
    · cases e
end

end Go.Proofs.Ytolhjndfplfjpaa.G
