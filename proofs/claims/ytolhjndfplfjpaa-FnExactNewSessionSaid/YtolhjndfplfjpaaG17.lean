/- Regions in the order of the text. -/
import Derived.Test.YtolhjndfplfjpaaG16
namespace Go.Proofs.Ytolhjndfplfjpaa.G
open Go.RowKit
set_option linter.unusedVariables false
set_option linter.unusedSimpArgs false

/-- The temporaries are told. -/
structure TR (w : World) (ρ : Map) (Pp Pt : Nat → Prop) (nt : Nat) (σ : GS) (a : Act) : Prop where
  size : a.tmps.size = nt
  val : ∀ t, VR w ρ Pp (σ t) Pt (a.tmps.getD t undef)
  defers : a.defers = []

section
variable {P : Program} {Pt Pp : Nat → Prop} {w : World} {ρ : Map} {h : Heap} {a : Act} {o : Oper} {σ : GS} {C : Cfg} {call : GCall} {F : Nat → Prop} {N nt : Nat} {ops : Array Oper}

theorem eval_EV {x : Operand} (hgl : GL w Pp) (hv : ∀ t, x = .tmp t → VR w ρ Pp (σ t) Pt (a.tmps.getD t undef)) : EV w ρ Pp Pt σ a x := by
  intro g e
  cases x with
  | tmp t =>
    simp only [eval, Option.some.injEq] at e
    subst e
    exact hv t rfl
  | const v => exact VR_ofV e
  | func f =>
    simp only [eval, Option.some.injEq] at e
    subst e
    exact ⟨#[], rfl, rfl⟩
  | global k =>
    simp only [eval, Option.map_eq_some_iff] at e
    obtain ⟨cells, h1, rfl⟩ := e
    obtain ⟨A, h2, h3⟩ := (hgl.gl k cells h1).2
    exact ⟨A, h2, h3⟩

theorem VR_bool {x : GV} {b : Bool} (h : VR w ρ Pp x Pt (.bool b)) : x = .bool b := by
  cases x <;> simp [VR, VRi, undef] at h <;> first | (subst h; rfl) | skip

theorem yield_eq {j : Nat} (hv : ∀ d, (ops[j]?).bind (·.dst) = some d → VR w ρ Pp (σ d) Pt (a.tmps.getD d undef)) : yielded ops a.tmps j = gyield ops σ j := by
  unfold yielded gyield
  cases hd : (ops[j]?).bind (·.dst) with
  | none => simp
  | some d =>
    have hh := hv d hd
    simp only [Option.bind_some]
    cases ht : a.tmps[d]? with
    | none =>
      have e0 : a.tmps.getD d undef = undef := by simp [ht]
      rw [e0] at hh
      cases hs : σ d <;> rw [hs] at hh <;> simp [VR, VRi, undef] at hh ⊢
    | some v =>
      have e0 : a.tmps.getD d undef = v := by simp [ht]
      rw [e0] at hh
      cases v with
      | bool b => rw [VR_bool hh]
      | _ => cases hs : σ d <;> rw [hs] at hh <;> simp [VR, VRi, undef] at hh ⊢

theorem wanted_eq {o : Oper} (hv : ∀ j want d, o.guard = some (j, want) → (ops[j]?).bind (·.dst) = some d → VR w ρ Pp (σ d) Pt (a.tmps.getD d undef)) : Region.wanted o (yielded ops a.tmps) = Region.wanted o (gyield ops σ) := by
  unfold Region.wanted
  cases hg : o.guard with
  | none => rfl
  | some p =>
    obtain ⟨j, want⟩ := p
    simp only
    rw [yield_eq (fun d hd => hv j want d hg hd)]

theorem getD_put {dst : Option Tmp} {u : Value} {t : Nat} (hd : dstOk a.tmps.size dst = true) : (a.put dst u).tmps.getD t undef = if dst = some t then u else a.tmps.getD t undef := by
  cases dst with
  | none => simp [Act.put]
  | some d =>
    simp only [dstOk] at hd
    have hd' : d < a.tmps.size := by simpa using hd
    by_cases hdt : d = t
    · subst hdt
      simp [Act.put, hd']
    · simp only [Act.put, Option.some.injEq, hdt, if_false]
      simp [Array.getElem?_setIfInBounds, hdt]

theorem upd_eq {dst : Option Tmp} {v : GV} {t : Nat} : upd σ dst v t = if dst = some t then v else σ t := by
  cases dst with
  | none => simp [upd]
  | some d =>
    simp only [upd, Option.some.injEq]
    by_cases hdt : d = t
    · subst hdt; simp
    · have : Nat.beq t d = false := by
        cases hb : Nat.beq t d with
        | false => rfl
        | true => exact absurd (Nat.eq_of_beq_eq_true hb).symm hdt
      simp [hdt, this]

theorem put_size {dst : Option Tmp} {u : Value} : (a.put dst u).tmps.size = a.tmps.size := by
  cases dst <;> simp [Act.put]
theorem put_defers {dst : Option Tmp} {u : Value} : (a.put dst u).defers = a.defers := by
  cases dst <;> simp [Act.put]

theorem TR.put {w' : World} {ρ' : Map} {Pp' : Nat → Prop} {dst : Option Tmp} {v : GV} {u : Value} (tr : TR w ρ Pp Pt nt σ a) (hd : dstOk nt dst = true) (hv : VR w' ρ' Pp' v Pt u)
    (hm : ∀ t, VR w ρ Pp (σ t) Pt (a.tmps.getD t undef) → VR w' ρ' Pp' (σ t) Pt (a.tmps.getD t undef)) : TR w' ρ' Pp' Pt nt (upd σ dst v) (a.put dst u) := by
  refine ⟨by rw [put_size]; exact tr.size, fun t => ?_, by rw [put_defers]; exact tr.defers⟩
  rw [getD_put (by rw [tr.size]; exact hd), upd_eq]
  split
  · exact hv
  · exact hm t (tr.val t)

theorem ops_seq (hN : NameOk P) (hC : CSound P call) (hX : XSound P C) {Q : Exit → Act → World → Prop} : ∀ (l : List Nat) (σ : GS) (h : Heap) (a : Act) (w : World) (ρ : Map) (Pp : Nat → Prop) (σ' : GS) (h' : Heap) (recs : List Rec),
    gops P C call nt ops l σ h = some (σ', h', recs) → TR w ρ Pp Pt nt σ a → Pre Pt w ρ Pp h F N → h'.length ≤ N → (∀ i, i ∈ (logOf recs).r ∨ i ∈ (logOf recs).w → F i) →
    (h.length ≤ h'.length) → (CFrame call) →
    (∀ a' w' ρ' Pp', TR w' ρ' Pp' Pt nt σ' a' → Step Pt w ρ Pp h (logOf recs) w' ρ' Pp' h' → Q .normal a' w') → wpOps P ops Q l a w
  | [], σ, h, a, w, ρ, Pp, σ', h', recs, e, tr, p, hn, hF, hle, hfr, hQ => by
    simp only [gops, Option.some.injEq, Prod.mk.injEq] at e
    obtain ⟨rfl, rfl, rfl⟩ := e
    exact hQ a w ρ Pp tr (Step.none ..)
  | j :: rest, σ, h, a, w, ρ, Pp, σ', h', recs, e, tr, p, hn, hF, hle, hfr, hQ => by
    unfold gops at e
    unfold wpOps
    cases hj : ops[j]? with
    | none => rw [hj] at e; cases e
    | some o =>
      rw [hj] at e
      simp only at e ⊢
      rw [wanted_eq (σ := σ) (fun _ _ d _ _ => tr.val d)]
      split at e
      · rename_i hd
        by_cases hw : Region.wanted o (gyield ops σ) = true
        · rw [if_pos hw] at e ⊢
          simp only [Option.bind_eq_bind, Option.bind_eq_some_iff, Option.some.injEq, Prod.mk.injEq] at e
          obtain ⟨⟨v, h1, lg⟩, he, ⟨σ2, h2, recs2⟩, hr, rfl, rfl, rfl⟩ := e
          have fr := gop_frame hfr he
          have fr2 := gops_len hfr rest _ _ _ _ _ hr
          left
          refine op_sound hN hC hX he (fun x _ => eval_EV p.gl fun t _ => tr.val t) (p.less (N' := h1.length) (Nat.le_trans fr2 hn)) (fun i hi => hF i (by simp only [logOf, Lg.add]; rcases hi with hi | hi <;> simp [hi])) _ _ fun u w' ⟨ρ', Pp', hv, st⟩ => ?_
          have hFw : ∀ i, i ∈ lg.w → F i := fun i hi => hF i (by simp only [logOf, Lg.add]; simp [hi])
          refine ops_seq hN hC hX rest _ h1 _ w' ρ' Pp' σ2 h2 recs2 hr (tr.put hd hv fun t ht => st.val p hFw ht) (st.after p hFw) hn (fun i hi => hF i (by simp only [logOf, Lg.add]; rcases hi with hi | hi <;> simp [hi])) fr2 hfr fun a' w2 ρ2 P2 tr2 st2 => ?_
          exact hQ a' w2 ρ2 P2 tr2 (st.trans st2 p hFw (fun i hi => .inl (hF i (by simp only [logOf, Lg.add]; simp [hi]))))
        · rw [if_neg hw] at e ⊢
          simp only [Option.bind_eq_bind, Option.bind_eq_some_iff, Option.some.injEq, Prod.mk.injEq] at e
          obtain ⟨⟨σ2, h2, recs2⟩, hr, rfl, rfl, rfl⟩ := e
          have el : logOf (⟨j, h.length, h.length, .nil⟩ :: recs2) = logOf recs2 := by simp [logOf, Lg.add, Lg.nil]
          rw [el] at hF hQ
          exact ops_seq hN hC hX rest _ h _ w ρ Pp σ2 h2 recs2 hr (tr.put hd (by simp [VR, VRi]) fun t ht => ht) p hn hF hle hfr hQ
      · cases e
where gops_len (hfr : CFrame call) : ∀ (l : List Nat) (σ : GS) (h : Heap) (σ' : GS) (h' : Heap) (recs : List Rec), gops P C call nt ops l σ h = some (σ', h', recs) → h.length ≤ h'.length
        | [], σ, h, σ', h', recs, e => by
          simp only [gops, Option.some.injEq, Prod.mk.injEq] at e
          obtain ⟨rfl, rfl, rfl⟩ := e
          exact Nat.le_refl _
        | j :: rest, σ, h, σ', h', recs, e => by
          unfold gops at e
          cases hj : ops[j]? with
          | none => rw [hj] at e; cases e
          | some o =>
            rw [hj] at e
            simp only at e
            split at e
            · split at e
              · simp only [Option.bind_eq_bind, Option.bind_eq_some_iff, Option.some.injEq, Prod.mk.injEq] at e
                obtain ⟨⟨v, h1, lg⟩, he, ⟨σ2, h2, recs2⟩, hr, rfl, rfl, rfl⟩ := e
                exact Nat.le_trans (gop_frame hfr he).len (gops_len hfr rest _ _ _ _ _ hr)
              · simp only [Option.bind_eq_bind, Option.bind_eq_some_iff, Option.some.injEq, Prod.mk.injEq] at e
                obtain ⟨⟨σ2, h2, recs2⟩, hr, rfl, rfl, rfl⟩ := e
                exact gops_len hfr rest _ _ _ _ _ hr
            · cases e
end

end Go.Proofs.Ytolhjndfplfjpaa.G
