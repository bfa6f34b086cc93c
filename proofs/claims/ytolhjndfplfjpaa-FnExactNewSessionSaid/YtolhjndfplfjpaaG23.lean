/- Code and calls: the other machine does what this one does. -/
import Derived.Test.YtolhjndfplfjpaaG22
namespace Go.Proofs.Ytolhjndfplfjpaa.G
open Go.RowKit
set_option linter.unusedVariables false
set_option linter.unusedSimpArgs false

def GX.exit : GX → Exit
  | .nrm => .normal
  | .ext id => .exit id
  | .ret => .ret

section
variable {P : Program} {C : Cfg} {call : GCall} {nt k : Nat} {Pt F : Nat → Prop} {N : Nat}

theorem Step.relog {w : World} {ρ : Map} {Pp : Nat → Prop} {h : Heap} {lg lg2 : Lg} {w' : World} {ρ' : Map} {Pp' : Nat → Prop} {h' : Heap} (st : Step Pt w ρ Pp h lg w' ρ' Pp' h') (hw : lg2.w = lg.w) : Step Pt w ρ Pp h lg2 w' ρ' Pp' h' :=
  ⟨st.os, st.tape, st.output, st.size, st.keep, by rw [hw]; exact st.kept, st.ppnew, by rw [hw]; exact st.rhoold, st.hlen, by rw [hw]; exact st.hkeep, by rw [hw]; exact st.blocks, by rw [hw]; exact st.fresh, by rw [hw]; exact st.inj⟩

/-- What a piece of code needs, and what it does. -/
def CodeOk (P : Program) (nt : Nat) (Pt F : Nat → Prop) (N : Nat) (g : GS → Heap → GR) (c : Code) : Prop :=
  ∀ (σ : GS) (h : Heap) (x : GX) (σ' : GS) (h' : Heap) (lg : Lg) (a : Act) (w : World) (ρ : Map) (Pp : Nat → Prop) (Q : Exit → Act → World → Prop),
    g σ h = some (x, σ', h', lg) → TR w ρ Pp Pt nt σ a → Pre Pt w ρ Pp h F N → h'.length ≤ N → (∀ i, i ∈ lg.r ∨ i ∈ lg.w → F i) → (∀ i, h.length ≤ i → F i) →
    (∀ a' w' ρ' Pp', TR w' ρ' Pp' Pt nt σ' a' → Step Pt w ρ Pp h lg w' ρ' Pp' h' → Q x.exit a' w') → c.wp P Q a w

theorem loop_sound {body : GS → Heap → GR} {c : Code} (hb : CodeOk P nt Pt F N body c) (hfr : ∀ σ h x σ' h' lg, body σ h = some (x, σ', h', lg) → FR h lg h') :
    ∀ (k : Nat) (σ : GS) (h : Heap) (x : GX) (σ' : GS) (h' : Heap) (lg : Lg) (a : Act) (w : World) (ρ : Map) (Pp : Nat → Prop) (Q : Exit → Act → World → Prop),
    gloop body k σ h = some (x, σ', h', lg) → TR w ρ Pp Pt nt σ a → Pre Pt w ρ Pp h F N → h'.length ≤ N → (∀ i, i ∈ lg.r ∨ i ∈ lg.w → F i) → (∀ i, h.length ≤ i → F i) →
    (∀ a' w' ρ' Pp', TR w' ρ' Pp' Pt nt σ' a' → Step Pt w ρ Pp h lg w' ρ' Pp' h' → x ≠ .nrm → Q x.exit a' w') → Code.rounds P c Q k a w
  | 0, σ, h, x, σ', h', lg, a, w, ρ, Pp, Q, e, _, _, _, _, _, _ => by cases e
  | k + 1, σ, h, x, σ', h', lg, a, w, ρ, Pp, Q, e, tr, p, hN, hF, hnew, hQ => by
    rw [rounds_succ]
    unfold gloop at e
    split at e
    · rename_i σ1 h1 l1 h0
      obtain ⟨⟨x2, σ2, h2, l2⟩, hr, e⟩ := Option.map_eq_some_iff.1 e
      simp only [Prod.mk.injEq] at e
      obtain ⟨rfl, rfl, rfl, rfl⟩ := e
      have f1 := hfr _ _ _ _ _ _ h0
      have f2 := gloop_frame hfr k _ _ _ _ _ _ hr
      have hF1 : ∀ i, i ∈ l1.r ∨ i ∈ l1.w → F i := fun i hi => hF i (hi.imp (fun h => by simp [Lg.add, h]) (fun h => by simp [Lg.add, h]))
      have hF2 : ∀ i, i ∈ l2.r ∨ i ∈ l2.w → F i := fun i hi => hF i (hi.imp (fun h => by simp [Lg.add, h]) (fun h => by simp [Lg.add, h]))
      refine hb _ _ _ _ _ _ a w ρ Pp _ h0 tr p (Nat.le_trans f2.len hN) hF1 hnew fun a1 w1 ρ1 P1 tr1 st1 => ?_
      have p1 := st1.after p (fun i hi => hF1 i (.inr hi))
      refine loop_sound hb hfr k _ _ _ _ _ _ a1 w1 ρ1 P1 Q hr tr1 p1 hN hF2 (fun i hi => hnew i (Nat.le_trans f1.len hi)) fun a2 w2 ρ2 P2 tr2 st2 hx => ?_
      exact hQ a2 w2 ρ2 P2 tr2 (st1.trans st2 p (fun i hi => hF1 i (.inr hi)) (fun i hi => .inl (hF2 i (.inr hi)))) hx
    · rename_i hne
      refine hb _ _ _ _ _ _ a w ρ Pp _ e tr p hN hF hnew fun a1 w1 ρ1 P1 tr1 st1 => ?_
      cases x with
      | nrm => exact (hne _ _ _ e).elim
      | ext id => exact hQ a1 w1 ρ1 P1 tr1 st1 (by simp)
      | ret => exact hQ a1 w1 ρ1 P1 tr1 st1 (by simp)

theorem gloop_ne {body : GS → Heap → GR} : ∀ (k : Nat) (σ : GS) (h : Heap) (x : GX) (σ' : GS) (h' : Heap) (lg : Lg), gloop body k σ h = some (x, σ', h', lg) → x ≠ .nrm
  | 0, σ, h, x, σ', h', lg, e => by cases e
  | k + 1, σ, h, x, σ', h', lg, e => by
    unfold gloop at e
    split at e
    · rename_i σ1 h1 l1 h0
      obtain ⟨⟨x2, σ2, h2, l2⟩, hr, e⟩ := Option.map_eq_some_iff.1 e
      simp only [Prod.mk.injEq] at e
      obtain ⟨rfl, rfl, rfl, rfl⟩ := e
      exact gloop_ne k _ _ _ _ _ _ hr
    · rename_i hne
      rintro rfl
      exact (hne _ _ _ e).elim

theorem code_sound (hM : P.follows .mixedOrders = true) (hN : NameOk P) (hC : CSound P call) (hX : XSound P C) (hfr : CFrame call) : ∀ (c : Code), CodeOk P nt Pt F N (gcode P C call k nt c) c
  | .skip, σ, h, x, σ', h', lg, a, w, ρ, Pp, Q, e, tr, p, hNl, hF, hnew, hQ => by
    simp only [gcode, Option.some.injEq, Prod.mk.injEq] at e
    obtain ⟨rfl, rfl, rfl, rfl⟩ := e
    exact wp_skip (hQ a w ρ Pp tr (Step.none ..))
  | .region id ops draw, σ, h, x, σ', h', lg, a, w, ρ, Pp, Q, e, tr, p, hNl, hF, hnew, hQ => by
    simp only [gcode] at e
    obtain ⟨⟨σ2, h2, l2⟩, hr, e⟩ := Option.map_eq_some_iff.1 e
    simp only [Prod.mk.injEq] at e
    obtain ⟨rfl, rfl, rfl, rfl⟩ := e
    exact region_sound hM hN hC hX hfr hr tr p hNl hF hnew hQ
  | .seq c1 c2, σ, h, x, σ', h', lg, a, w, ρ, Pp, Q, e, tr, p, hNl, hF, hnew, hQ => by
    simp only [gcode] at e
    refine wp_seq ?_
    split at e
    · rename_i σ1 h1 l1 h0
      obtain ⟨⟨x2, σ2, h2, l2⟩, hr, e⟩ := Option.map_eq_some_iff.1 e
      simp only [Prod.mk.injEq] at e
      obtain ⟨rfl, rfl, rfl, rfl⟩ := e
      have f1 := gcode_frame hfr c1 _ _ _ _ _ _ h0
      have f2 := gcode_frame hfr c2 _ _ _ _ _ _ hr
      have hF1 : ∀ i, i ∈ l1.r ∨ i ∈ l1.w → F i := fun i hi => hF i (hi.imp (fun h => by simp [Lg.add, h]) (fun h => by simp [Lg.add, h]))
      have hF2 : ∀ i, i ∈ l2.r ∨ i ∈ l2.w → F i := fun i hi => hF i (hi.imp (fun h => by simp [Lg.add, h]) (fun h => by simp [Lg.add, h]))
      refine code_sound hM hN hC hX hfr c1 _ _ _ _ _ _ a w ρ Pp _ h0 tr p (Nat.le_trans f2.len hNl) hF1 hnew fun a1 w1 ρ1 P1 tr1 st1 => ?_
      have p1 := st1.after p (fun i hi => hF1 i (.inr hi))
      refine code_sound hM hN hC hX hfr c2 _ _ _ _ _ _ a1 w1 ρ1 P1 Q hr tr1 p1 hNl hF2 (fun i hi => hnew i (Nat.le_trans f1.len hi)) fun a2 w2 ρ2 P2 tr2 st2 => ?_
      exact hQ a2 w2 ρ2 P2 tr2 (st1.trans st2 p (fun i hi => hF1 i (.inr hi)) (fun i hi => .inl (hF2 i (.inr hi))))
    · rename_i hne
      refine code_sound hM hN hC hX hfr c1 _ _ _ _ _ _ a w ρ Pp _ e tr p hNl hF hnew fun a1 w1 ρ1 P1 tr1 st1 => ?_
      cases x with
      | nrm => exact (hne _ _ _ e).elim
      | ext id => exact hQ a1 w1 ρ1 P1 tr1 st1
      | ret => exact hQ a1 w1 ρ1 P1 tr1 st1
  | .cond o c1 c2, σ, h, x, σ', h', lg, a, w, ρ, Pp, Q, e, tr, p, hNl, hF, hnew, hQ => by
    simp only [gcode] at e
    split at e
    · rename_i t ht
      have hv := eval_EV (a := a) (x := o) p.gl (fun t _ => tr.val t) _ ht
      simp only [VR, VRi] at hv
      refine wp_cond hv ?_
      cases t with
      | true => exact code_sound hM hN hC hX hfr c1 _ _ _ _ _ _ a w ρ Pp Q e tr p hNl hF hnew hQ
      | false => exact code_sound hM hN hC hX hfr c2 _ _ _ _ _ _ a w ρ Pp Q e tr p hNl hF hnew hQ
    · cases e
  | .block id c, σ, h, x, σ', h', lg, a, w, ρ, Pp, Q, e, tr, p, hNl, hF, hnew, hQ => by
    simp only [gcode] at e
    refine wp_block ?_
    split at e
    · rename_i id' σ1 h1 l1 h0
      split at e
      · rename_i hid
        simp only [Option.some.injEq, Prod.mk.injEq] at e
        obtain ⟨rfl, rfl, rfl, rfl⟩ := e
        refine code_sound hM hN hC hX hfr c _ _ _ _ _ _ a w ρ Pp _ h0 tr p hNl hF hnew fun a1 w1 ρ1 P1 tr1 st1 => ?_
        show Exit.inBlock id Q (.exit id') a1 w1
        simp only [Exit.inBlock, hid, if_true]
        exact hQ a1 w1 ρ1 P1 tr1 st1
      · rename_i hid
        simp only [Option.some.injEq, Prod.mk.injEq] at e
        obtain ⟨rfl, rfl, rfl, rfl⟩ := e
        refine code_sound hM hN hC hX hfr c _ _ _ _ _ _ a w ρ Pp _ h0 tr p hNl hF hnew fun a1 w1 ρ1 P1 tr1 st1 => ?_
        show Exit.inBlock id Q (.exit id') a1 w1
        simp only [Exit.inBlock, hid, if_false]
        exact hQ a1 w1 ρ1 P1 tr1 st1
    · rename_i hne
      refine code_sound hM hN hC hX hfr c _ _ _ _ _ _ a w ρ Pp _ e tr p hNl hF hnew fun a1 w1 ρ1 P1 tr1 st1 => ?_
      cases x with
      | ext id => exact (hne _ _ _ _ e).elim
      | nrm => exact hQ a1 w1 ρ1 P1 tr1 st1
      | ret => exact hQ a1 w1 ρ1 P1 tr1 st1
  | .loop c, σ, h, x, σ', h', lg, a, w, ρ, Pp, Q, e, tr, p, hNl, hF, hnew, hQ => by
    simp only [gcode] at e
    exact wp_loop_rounds k (loop_sound (code_sound hM hN hC hX hfr c) (fun σ h x σ' h' lg e => gcode_frame hfr c σ h x σ' h' lg e) _ _ _ _ _ _ _ a w ρ Pp Q e tr p hNl hF hnew fun a1 w1 ρ1 P1 tr1 st1 _ => hQ a1 w1 ρ1 P1 tr1 st1)
  | .exit id, σ, h, x, σ', h', lg, a, w, ρ, Pp, Q, e, tr, p, hNl, hF, hnew, hQ => by
    simp only [gcode, Option.some.injEq, Prod.mk.injEq] at e
    obtain ⟨rfl, rfl, rfl, rfl⟩ := e
    exact wp_exit (hQ a w ρ Pp tr (Step.none ..))
  | .ret, σ, h, x, σ', h', lg, a, w, ρ, Pp, Q, e, tr, p, hNl, hF, hnew, hQ => by
    simp only [gcode, Option.some.injEq, Prod.mk.injEq] at e
    obtain ⟨rfl, rfl, rfl, rfl⟩ := e
    exact wp_ret (hQ a w ρ Pp tr (Step.none ..))
  | .label l, σ, h, x, σ', h', lg, a, w, ρ, Pp, Q, e, tr, p, hNl, hF, hnew, hQ => by
    simp only [gcode, Option.some.injEq, Prod.mk.injEq] at e
    obtain ⟨rfl, rfl, rfl, rfl⟩ := e
    exact wp_label (hQ a w ρ Pp tr (Step.none ..))
  | .goto l, σ, h, x, σ', h', lg, a, w, ρ, Pp, Q, e, tr, p, hNl, hF, hnew, hQ => by simp only [gcode] at e; cases e
  | .scope c, σ, h, x, σ', h', lg, a, w, ρ, Pp, Q, e, tr, p, hNl, hF, hnew, hQ => by simp only [gcode] at e; cases e
  | .rangeFunc .., σ, h, x, σ', h', lg, a, w, ρ, Pp, Q, e, tr, p, hNl, hF, hnew, hQ => by simp only [gcode] at e; cases e

def resOne (tmps : Array Value) : ResultVar → Sem Value
  | .tmp t => pure (tmps.getD t undef)
  | .cell b t => do loadVar t (← asAddr (tmps.getD b undef))

theorem results_eq (fn : Func) (tmps : Array Value) : results fn tmps = (do let vs ← fn.results.mapM (resOne tmps); pure (if h : vs.size = 1 then vs[0] else .tuple vs)) := rfl

theorem result_run {w : World} {ρ : Map} {Pp : Nat → Prop} {h : Heap} {σ : GS} {a : Act} (tr : TR w ρ Pp Pt nt σ a) {rv : ResultVar} {v : GV} {r : List Nat} (e : gresult P σ h rv = some (v, r)) (hb : ∀ i, i ∈ r → HB w ρ Pp Pt h i) :
    ∃ u, (resOne a.tmps rv).run P w = .ok u w ∧ VR w ρ Pp v Pt u := by
  cases rv with
  | tmp t =>
    simp only [gresult, Option.some.injEq, Prod.mk.injEq] at e
    obtain ⟨rfl, rfl⟩ := e
    exact ⟨_, rfl, tr.val t⟩
  | cell b t =>
    simp only [gresult] at e
    obtain ⟨u, h1, h2⟩ := gload_run e (tr.val b) hb
    refine ⟨u, ?_, h2⟩
    simp only [resOne]
    generalize a.tmps.getD b undef = x at h1 ⊢
    cases x with
    | pointer o =>
      cases o with
      | none => simp [Instr.loadAt, Instr.sureAddr] at h1
      | some A =>
        simp only [Instr.loadAt, Instr.sureAddr, Sem.run_bind, Sem.run_pure, Result.andThen_ok] at h1
        simp only [asAddr, Sem.run_bind, Sem.run_pure, Result.andThen_ok]
        exact h1
    | _ => simp [Instr.loadAt, Instr.sureAddr] at h1

theorem results_run {w : World} {ρ : Map} {Pp : Nat → Prop} {h : Heap} {σ : GS} {a : Act} (tr : TR w ρ Pp Pt nt σ a) {fn : Func} {v : GV} {r : List Nat} (e : gresults P fn σ h = some (v, r)) (hb : ∀ i, i ∈ r → HB w ρ Pp Pt h i) :
    ∃ u, (results fn a.tmps).run P w = .ok u w ∧ VR w ρ Pp v Pt u := by
  unfold gresults at e
  simp only [Option.bind_eq_bind, Option.bind_eq_some_iff] at e
  obtain ⟨vs, hvs, e⟩ := e
  have hr : ∀ i, i ∈ (vs.map (·.2)).flatten → i ∈ r := by
    intro i hi
    split at e
    · simp only [Option.some.injEq] at e
      subst e
      simpa using hi
    · simp only [Option.some.injEq, Prod.mk.injEq] at e
      rw [← e.2]
      exact hi
  have key : ∀ (l : List ResultVar) (vs : List (GV × List Nat)), l.mapM (gresult P σ h) = some vs → (∀ i, i ∈ (vs.map (·.2)).flatten → HB w ρ Pp Pt h i) →
      ∃ us : List Value, (l.mapM (resOne a.tmps)).run P w = .ok us w ∧ VRs w ρ Pp (vs.map (·.1)) Pt us := by
    intro l
    induction l with
    | nil => intro vs hvs _; simp at hvs; subst hvs; exact ⟨[], rfl, rfl⟩
    | cons rv l ih =>
      intro vs hvs hb
      simp only [List.mapM_cons, Option.bind_eq_bind, Option.bind_eq_some_iff, Option.pure_def, Option.some.injEq] at hvs
      obtain ⟨⟨v0, r0⟩, h1, vs', h2, rfl⟩ := hvs
      obtain ⟨u, h3, h4⟩ := result_run tr h1 (fun i hi => hb i (by simp [hi]))
      obtain ⟨us, h5, h6⟩ := ih vs' h2 (fun i hi => hb i (by simp at hi ⊢; exact .inr hi))
      refine ⟨u :: us, ?_, ⟨u, us, rfl, h4, h6⟩⟩
      simp only [List.mapM_cons, Sem.run_bind]
      rw [h3]
      simp only [Result.andThen_ok]
      rw [h5]
      rfl
  obtain ⟨us, h1, h2⟩ := key _ vs hvs (fun i hi => hb i (hr i hi))
  have hl := VRs_len h2
  have hm : (results fn a.tmps).run P w = .ok (if h : us.toArray.size = 1 then us.toArray[0] else .tuple us.toArray) w := by
    rw [results_eq, Array.mapM_eq_mapM_toList]
    simp only [Sem.run_bind, Sem.run_map, h1, Result.andThen_ok, Sem.run_pure]
  split at e
  · rename_i v0
    simp only [Option.some.injEq] at e
    subst e
    obtain ⟨u, us', rfl, h3, h4⟩ := h2
    simp only [List.map_nil, VRsi] at h4
    subst h4
    exact ⟨u, hm, h3⟩
  · rename_i hne
    simp only [Option.some.injEq, Prod.mk.injEq] at e
    obtain ⟨rfl, rfl⟩ := e
    refine ⟨.tuple us.toArray, ?_, ⟨us.toArray, rfl, h2⟩⟩
    rw [hm, dif_neg]
    intro h1
    simp at h1
    rw [h1] at hl
    simp at hl
    obtain ⟨x, hx⟩ := List.length_eq_one_iff.1 hl.symm
    exact hne x hx

theorem gcall_sound (hM : P.follows .mixedOrders = true) (hN : NameOk P) (hX : XSound P C) : ∀ k, CSound P (gcall P C k)
  | 0, f, args, h, v, h', lg, us, w, ρ, Pp, Pt, F, e, _, _, _ => by cases e
  | k + 1, f, args, h, v, h', lg, us, w, ρ, Pp, Pt, F, e, hv, p, hF => by
    have ih := gcall_sound hM hN hX k
    unfold gcall at e
    split at e
    · cases e
    · rename_i fn hfn
      split at e
      · cases e
      · rename_i c hc
        split at e
        · cases e
        · rename_i x σ2 h2 l2 hne h0
          obtain ⟨⟨v', r⟩, hr, e⟩ := Option.map_eq_some_iff.1 e
          simp only [Prod.mk.injEq] at e
          obtain ⟨rfl, rfl, rfl⟩ := e
          have hl := VRs_len hv
          refine calls_of_wp hfn hc ?_
          have tr : TR w ρ Pp Pt (max args.length fn.ntmps) (fun t => args.getD t .un) { tmps := us.toArray ++ Array.replicate (fn.ntmps - us.toArray.size) undef, defers := [] } := by
            refine ⟨by simp [hl]; omega, fun t => ?_, rfl⟩
            by_cases ht : t < args.length
            · obtain ⟨u, h1, h2⟩ := VRs_get hv t (args[t]) (by simp)
              have e1 : args.getD t .un = args[t] := by simp [List.getD, ht]
              have e2 : (us.toArray ++ Array.replicate (fn.ntmps - us.toArray.size) undef).getD t undef = u := by
                have : t < us.length := by omega
                rw [List.getElem?_eq_getElem this] at h1
                simp only [Option.some.injEq] at h1
                simp [Array.getElem?_append, this, h1]
              rw [e1, e2]
              exact h2
            · have e1 : args.getD t .un = .un := by simp [List.getD, List.getElem?_eq_none (by omega : args.length ≤ t)]
              have e2 : (us.toArray ++ Array.replicate (fn.ntmps - us.toArray.size) undef).getD t undef = undef := by
                have : ¬ t < us.length := by omega
                simp [Array.getElem?_append, this, Array.getElem?_replicate]
                split <;> rfl
              rw [e1, e2]
              rfl
          have p' := p.more
          have hF' : ∀ i, i ∈ l2.r ∨ i ∈ l2.w → F i ∨ h.length ≤ i := fun i hi => .inl (hF i (hi.imp (fun h => by simp [Lg.add, h]) (fun h => by simp [Lg.add, h])))
          refine code_sound (F := fun i => F i ∨ h.length ≤ i) (N := h2.length) hM hN ih hX (gcall_frame k) c _ _ _ _ _ _ _ w ρ Pp _ h0 tr p' (Nat.le_refl _) hF' (fun i hi => .inr hi) fun a1 w1 ρ1 P1 tr1 st1 => ?_
          have p1 := st1.after p' (fun i hi => hF' i (.inr hi))
          obtain ⟨u, q1, q2⟩ := results_run tr1 hr (fun i hi => p1.hb i (.inl (hF i (.inl (by simp [Lg.add, hi])))))
          have fin : (∃ v, (results fn a1.tmps).run P w1 = .ok v w1 ∧ (match Ending.returned v, w1 with | .returned u, w' => After Pt w ρ Pp h (l2.add ⟨r, []⟩) h2 v' u w' | _, _ => False)) :=
            ⟨u, q1, ρ1, P1, q2, st1.relog (by simp [Lg.add])⟩
          cases x with
          | ext id => exact (hne _ rfl).elim
          | nrm => exact ⟨tr1.defers, fin⟩
          | ret => exact ⟨tr1.defers, fin⟩
        · cases e
end

end Go.Proofs.Ytolhjndfplfjpaa.G
