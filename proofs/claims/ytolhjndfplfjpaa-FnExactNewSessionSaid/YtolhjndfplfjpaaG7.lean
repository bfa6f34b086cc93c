/- The operations that change nothing, one by one: slices, structs, conversions. -/
import Derived.Test.YtolhjndfplfjpaaG6
namespace Go.Proofs.Ytolhjndfplfjpaa.G
open Go.RowKit
set_option linter.unusedVariables false
set_option linter.unusedSimpArgs false

section
variable {P : Program} {Pt Pp : Nat → Prop} {w : World} {ρ : Map} {h : Heap} {a : Act} {o : Oper} {σ : GS} {C : Cfg} {call : GCall}

theorem run_bound {g : GV} {n : Int} {u : Value} {y : Nat} {code : BoundsCode} (hg : gint g = some n) (hv : VR w ρ Pp g Pt u) (h0 : 0 ≤ n) (h1 : n ≤ y) :
    (Instr.sliceBound u y code).run P w = .ok n.toNat w := by
  cases g <;> simp [gint] at hg
  subst hg
  simp only [VR, VRi] at hv
  subst hv
  simp [Instr.sliceBound, asIntOf, h0, h1]

/-- Bounds that may be left out. -/
def OV (w : World) (ρ : Map) (Pp Pt : Nat → Prop) : Option GV → Option Value → Prop
  | none, none => True
  | some g, some v => VR w ρ Pp g Pt v
  | _, _ => False

theorem run_bounds {isS : Bool} {len cap : Nat} {lo hi mx : Option GV} {ulo uhi umx : Option Value} {l hh m : Int} (hlo : OV w ρ Pp Pt lo ulo) (hhi : OV w ρ Pp Pt hi uhi) (hmx : OV w ρ Pp Pt mx umx)
    (el : gopt 0 lo = some l) (eh : gopt len hi = some hh)
    (em : gopt cap mx = some m) (hne : mx.isSome = true → hi.isSome = true)
    (h0 : 0 ≤ l) (h1 : l ≤ hh) (h2 : hh ≤ m) (h3 : m ≤ cap) :
    (Instr.sliceBounds isS len cap ulo uhi umx).run P w = .ok (l.toNat, hh.toNat, m.toNat) w := by
  have e1 : ∀ u, umx = some u → ∀ code, (Instr.sliceBound u cap code).run P w = .ok m.toNat w := by
    intro u hu code
    subst hu
    cases mx with
    | none => simp [OV] at hmx
    | some g => exact run_bound em hmx (by omega) h3
  have e1' : umx = none → m = cap := by
    intro hu
    subst hu
    cases mx with
    | none => simp [gopt] at em; omega
    | some g => simp [OV] at hmx
  have e2 : ∀ u, uhi = some u → ∀ code, (Instr.sliceBound u m.toNat code).run P w = .ok hh.toNat w := by
    intro u hu code
    subst hu
    cases hi with
    | none => simp [OV] at hhi
    | some g => exact run_bound eh hhi (by omega) (by omega)
  have e2' : uhi = none → hh = len := by
    intro hu
    subst hu
    cases hi with
    | none => simp [gopt] at eh; omega
    | some g => simp [OV] at hhi
  have e3 : ∀ u, ulo = some u → ∀ code, (Instr.sliceBound u hh.toNat code).run P w = .ok l.toNat w := by
    intro u hu code
    subst hu
    cases lo with
    | none => simp [OV] at hlo
    | some g => exact run_bound el hlo (by omega) (by omega)
  have e3' : ulo = none → l = 0 := by
    intro hu
    subst hu
    cases lo with
    | none => simp [gopt] at el; omega
    | some g => simp [OV] at hlo
  have e4 : umx.isSome = true → uhi.isSome = true := by
    intro hu
    cases umx with
    | none => cases hu
    | some u =>
      cases mx with
      | none => simp [OV] at hmx
      | some g =>
        have := hne rfl
        cases hi with
        | none => cases this
        | some g => cases uhi with
          | none => simp [OV] at hhi
          | some u => rfl
  cases umx with
  | none =>
    have hm := e1' rfl
    subst hm
    cases uhi with
    | none =>
      have hl := e2' rfl
      subst hl
      cases ulo with
      | none => have := e3' rfl; subst this; simp [Instr.sliceBounds]
      | some u =>
        have := e3 u rfl
        simp only [Int.toNat_natCast] at this
        simp [Instr.sliceBounds, this]
    | some v =>
      have hv := e2 v rfl
      simp only [Int.toNat_natCast] at hv
      cases ulo with
      | none => have := e3' rfl; subst this; simp [Instr.sliceBounds, hv]
      | some u => simp [Instr.sliceBounds, hv, e3 u rfl]
  | some x =>
    have hx := e1 x rfl
    cases uhi with
    | none => simp at e4
    | some v =>
      have hv := e2 v rfl
      cases ulo with
      | none => have := e3' rfl; subst this; simp [Instr.sliceBounds, hx, hv]
      | some u => simp [Instr.sliceBounds, hx, hv, e3 u rfl]

theorem gslice_str {t : TypeId} {s : ByteArray} {v : GV} {lo hi mx : Option GV} {ulo uhi umx : Option Value} (hu : P.underlying t = some .string) (hlo : OV w ρ Pp Pt lo ulo) (hhi : OV w ρ Pp Pt hi uhi) (hmx : OV w ρ Pp Pt mx umx)
    (e : gslice P t (.str s) lo hi mx = some v) : ∃ u, (Instr.sliceAt t (.string s) ulo uhi umx).run P w = .ok u w ∧ VR w ρ Pp v Pt u := by
  unfold gslice at e
  simp only [Option.bind_eq_bind, Option.bind_eq_some_iff] at e
  obtain ⟨l, hl, e⟩ := e
  split at e
  · cases e
  · split at e
    · cases e
    · rename_i hm
      simp only [Option.bind_eq_some_iff] at e
      obtain ⟨hh, hh', e⟩ := e
      split at e
      · rename_i hc
        cases e
        cases mx with
        | some _ => simp at hm
        | none =>
          cases umx with
          | some _ => simp [OV] at hmx
          | none =>
            have := run_bounds (P := P) (isS := false) (len := s.size) (cap := s.size) hlo hhi (mx := none) (umx := none) trivial hl hh' (m := s.size) rfl (by simp) hc.1 hc.2.1 (by omega) (by omega)
            exact ⟨_, by simp [Instr.sliceAt, Instr.slice, run_underlying hu, this], rfl⟩
      · cases e

theorem take_drop_nil {α : Type} {l : List α} {n m : Nat} (h : (l.drop n).take m ≠ []) : l ≠ [] ∧ m ≠ 0 := by
  constructor
  · intro e; subst e; simp at h
  · intro e; subst e; simp at h

theorem gslice_slice {t et : TypeId} {x : GV} {ux : Value} {v : GV} {lo hi mx : Option GV} {ulo uhi umx : Option Value} (hu : P.underlying t = some (.slice et)) (hx : VR w ρ Pp x Pt ux) (hlo : OV w ρ Pp Pt lo ulo) (hhi : OV w ρ Pp Pt hi uhi) (hmx : OV w ρ Pp Pt mx umx)
    (hs : (∃ es, gsize P et = some es ∧ ((∃ i off len cap, x = .sl i off len cap es) ∨ ∃ tg n cells, x = .fz tg (n + 1) es cells)) ∨ (((∃ tg es cells, x = .fz tg 0 es cells) ∨ x = .nils ∨ x = .emp) ∧ ∃ n, gsize P et = some n))
    (e : gslice P t x lo hi mx = some v) : ∃ u, (Instr.sliceAt t ux ulo uhi umx).run P w = .ok u w ∧ VR w ρ Pp v Pt u := by
  unfold gslice at e
  simp only [Option.bind_eq_bind, Option.bind_eq_some_iff] at e
  obtain ⟨l, hl, e⟩ := e
  split at e
  · cases e
  · rename_i hne
    have hne' : mx.isSome = true → hi.isSome = true := by
      intro hm
      cases hi with
      | none => simp [hm] at hne
      | some _ => rfl
    rcases hs with ⟨es, hes, ⟨i, off, len, cap, rfl⟩ | ⟨tg, n, cells, rfl⟩⟩ | ⟨⟨tg, es, cells, rfl⟩ | rfl | rfl, sz, hsz⟩
    · simp only [Option.bind_eq_bind, Option.bind_eq_some_iff] at e
      obtain ⟨m, hm, hh, hh', e⟩ := e
      obtain ⟨c, sh, A, cap', h6, rfl, h8, h9, h10⟩ := hx
      split at e
      · rename_i hc
        obtain ⟨c0, c1, c2, c3⟩ := hc
        have run : ∀ m' : Int, gopt cap' mx = some m' → hh ≤ m' → m' ≤ cap' → (Instr.sliceAt t (.slice (some A) len cap') ulo uhi umx).run P w = .ok (.slice (if m'.toNat = l.toNat then some A else some (A.add (l.toNat * es))) (hh.toNat - l.toNat) (m'.toNat - l.toNat)) w := by
          intro m' q1 q2 q3
          have := run_bounds (P := P) (isS := true) (len := len) (cap := cap') hlo hhi hmx hl hh' q1 hne' c0 c1 q2 q3
          simp [Instr.sliceAt, Instr.slice, run_underlying hu, this, run_sizeOf hes]
        split at e
        · rename_i hmc
          cases e
          -- the far bound in the other machine
          obtain ⟨m', q1, q2, q3, q4⟩ : ∃ m' : Int, gopt cap' mx = some m' ∧ m ≤ m' ∧ m' ≤ cap' ∧ 0 ≤ m' := by
            cases mx with
            | none => exact ⟨cap', rfl, by omega, by omega, by omega⟩
            | some g => exact ⟨m, hm, by omega, by omega, by omega⟩
          refine ⟨_, run m' q1 (by omega) q3, ?_⟩
          by_cases hml : m'.toNat = l.toNat
          · rw [if_pos hml]
            refine ⟨c, sh, A, m'.toNat - l.toNat, ?_, rfl, by omega, by omega, .inl (by omega)⟩
            rw [show off + l.toNat * es + (cap - l.toNat) * es = off + cap * es by
              rw [Nat.add_assoc, ← Nat.add_mul]; congr 2; omega]
            exact h6
          · rw [if_neg hml]
            refine ⟨c, sh, A.add (l.toNat * es), m'.toNat - l.toNat, ?_, rfl, by omega, by omega, .inr ?_⟩
            · rw [show off + l.toNat * es + (cap - l.toNat) * es = off + cap * es by
                rw [Nat.add_assoc, ← Nat.add_mul]; congr 2; omega]
              exact h6
            · rcases h10 with h10 | ⟨rfl, R, h11, h12⟩
              · omega
              · refine ⟨by rw [addr_add]; simp; omega, R, h11, ?_⟩
                have : (l.toNat + (m'.toNat - l.toNat)) * es ≤ cap' * es := Nat.mul_le_mul_right _ (by omega)
                rw [Nat.add_mul] at this
                omega
        · split at e
          · rename_i hml
            cases e
            subst hml
            cases mx with
            | none => simp [gopt] at hm; omega
            | some g =>
              refine ⟨_, run m hm (by omega) (by omega), ?_⟩
              rw [if_pos rfl]
              exact .inr ⟨A, by rw [show hh.toNat - m.toNat = 0 by omega, show m.toNat - m.toNat = 0 by omega]⟩
          · cases e
            cases mx with
            | none => exact ⟨_, run cap' rfl (by omega) (by omega), rfl, _, _, _, rfl⟩
            | some g => exact ⟨_, run m hm (by omega) (by omega), rfl, _, _, _, rfl⟩
      · cases e
    · simp only [Option.bind_eq_bind, Option.bind_eq_some_iff] at e
      obtain ⟨hh, hh', m, hm, e⟩ := e
      obtain ⟨A, cap', rfl, h8, h9, h10⟩ := hx.resolve_left (by simp)
      split at e
      · rename_i hc
        obtain ⟨c0, c1, c2, c3⟩ := hc
        obtain ⟨m', q1, q2, q3, q4⟩ : ∃ m' : Int, gopt cap' mx = some m' ∧ hh ≤ m' ∧ m' ≤ cap' ∧ 0 ≤ m' := by
          cases mx with
          | none => exact ⟨cap', rfl, by omega, by omega, by omega⟩
          | some g => exact ⟨m, hm, by omega, by omega, by omega⟩
        have := run_bounds (P := P) (isS := true) (len := n + 1) (cap := cap') hlo hhi hmx hl hh' q1 hne' c0 c1 q2 q3
        refine ⟨.slice (if m'.toNat = l.toNat then some A else some (A.add (l.toNat * es))) (hh.toNat - l.toNat) (m'.toNat - l.toNat), by simp [Instr.sliceAt, Instr.slice, run_underlying hu, this, run_sizeOf hes], ?_⟩
        split at e
        · rename_i hhl
          cases e
          subst hhl
          rw [show hh.toNat - hh.toNat = 0 by omega]
          split
          · exact .inr ⟨A, _, rfl, by omega, rfl, fun hc => (hc rfl).elim⟩
          · exact .inr ⟨_, _, rfl, by omega, rfl, fun hc => (hc rfl).elim⟩
        cases e
        have hlen : ((cells.drop (l.toNat * es)).take ((hh.toNat - l.toNat) * es)).length = (hh.toNat - l.toNat) * es := by
          have : (l.toNat + (hh.toNat - l.toNat)) * es ≤ (n + 1) * es := Nat.mul_le_mul_right _ (by omega)
          rw [Nat.add_mul] at this
          simp only [List.length_take, List.length_drop]
          omega
        by_cases hml : m'.toNat = l.toNat
        · rw [if_pos hml]
          refine .inr ⟨A, _, rfl, by omega, hlen, fun hc => ?_⟩
          have h13 := (take_drop_nil hc).2
          rw [show hh.toNat - l.toNat = 0 by omega] at h13
          simp at h13
        · rw [if_neg hml]
          refine .inr ⟨_, _, rfl, by omega, hlen, fun hc => ?_⟩
          obtain ⟨h11, us, h12, h13⟩ := h10 (take_drop_nil hc).1
          refine ⟨by rw [add_block]; exact h11, (us.drop (l.toNat * es)).take ((hh.toNat - l.toNat) * es), VRs_take _ (VRs_drop _ h12), fun j u hj => ?_⟩
          rw [List.getElem?_take] at hj
          split at hj
          · rw [List.getElem?_drop] at hj
            rw [add_add]
            exact h13 _ _ hj
          · cases hj
      · cases e
    · simp only [Option.bind_eq_bind, Option.bind_eq_some_iff] at e
      obtain ⟨hh, hh', m, hm, e⟩ := e
      split at e
      · rename_i hc
        obtain ⟨rfl, rfl, rfl⟩ := hc
        cases e
        rcases hx with ⟨_, _, _, rfl⟩ | ⟨A, cap', rfl, h8, h9, h10⟩
        · have q1 : gopt (0 : Nat) mx = some 0 := by cases mx <;> first | rfl | exact hm
          have := run_bounds (P := P) (isS := true) (len := 0) (cap := 0) hlo hhi hmx hl hh' q1 hne' (by omega) (by omega) (by omega) (by omega)
          exact ⟨.slice none 0 0, by simp [Instr.sliceAt, Instr.slice, run_underlying hu, this, run_sizeOf hsz], .inl ⟨rfl, rfl, rfl, rfl⟩⟩
        · obtain ⟨m', q1, q2, q3⟩ : ∃ m' : Int, gopt cap' mx = some m' ∧ 0 ≤ m' ∧ m' ≤ cap' := by
            cases mx with
            | none => exact ⟨cap', rfl, by omega, by omega⟩
            | some g => exact ⟨0, hm, by omega, by omega⟩
          have := run_bounds (P := P) (isS := true) (len := 0) (cap := cap') hlo hhi hmx hl hh' q1 hne' (by omega) (by omega) q2 q3
          refine ⟨_, by simp only [Instr.sliceAt, Instr.slice, Sem.run_bind, run_underlying hu, Result.andThen_ok, this, run_sizeOf hsz]; rfl, ?_⟩
          split
          · exact .inr ⟨A, _, rfl, by omega, rfl, fun hc => (hc rfl).elim⟩
          · exact .inr ⟨_, _, rfl, by omega, rfl, fun hc => (hc rfl).elim⟩
      · cases e
    · simp only [Option.bind_eq_bind, Option.bind_eq_some_iff] at e
      obtain ⟨hh, hh', m, hm, e⟩ := e
      simp only [VR, VRi] at hx
      subst hx
      split at e
      · rename_i hc
        obtain ⟨rfl, rfl, rfl⟩ := hc
        cases e
        have := run_bounds (P := P) (isS := true) (len := 0) (cap := 0) hlo hhi hmx hl hh' hm hne' (by omega) (by omega) (by omega) (by omega)
        exact ⟨.slice none 0 0, by simp [Instr.sliceAt, Instr.slice, run_underlying hu, this, run_sizeOf hsz], rfl⟩
      · cases e
    · simp only [Option.bind_eq_bind, Option.bind_eq_some_iff] at e
      obtain ⟨hh, hh', m, hm, e⟩ := e
      split at e
      · rename_i hc
        obtain ⟨rfl, rfl, rfl⟩ := hc
        cases e
        have := run_bounds (P := P) (isS := true) (len := 0) (cap := 0) hlo hhi hmx hl hh' hm hne' (by omega) (by omega) (by omega) (by omega)
        rcases hx with rfl | ⟨A, rfl⟩
        · exact ⟨.slice none 0 0, by simp [Instr.sliceAt, Instr.slice, run_underlying hu, this, run_sizeOf hsz], .inl rfl⟩
        · exact ⟨.slice (some A) 0 0, by simp [Instr.sliceAt, Instr.slice, run_underlying hu, this, run_sizeOf hsz], .inr ⟨A, rfl⟩⟩
      · cases e

theorem gslice_fz {t et : TypeId} {tg : Bool} {n es : Nat} {cells : List GV} {ux : Value} {v : GV} {lo hi mx : Option GV} {ulo uhi umx : Option Value} (hu : P.underlying t = some (.slice et)) (hx : VR w ρ Pp (.fz tg n es cells) Pt ux) (hlo : OV w ρ Pp Pt lo ulo) (hhi : OV w ρ Pp Pt hi uhi) (hmx : OV w ρ Pp Pt mx umx)
    (hes : gsize P et = some es ∨ (n = 0 ∧ (gsize P et).isSome = true))
    (e : gslice P t (.fz tg n es cells) lo hi mx = some v) : ∃ u, (Instr.sliceAt t ux ulo uhi umx).run P w = .ok u w ∧ VR w ρ Pp v Pt u := by
  cases n with
  | zero =>
    obtain ⟨sz, hsz⟩ : ∃ sz, gsize P et = some sz := by
      rcases hes with hes | ⟨_, hes⟩
      · exact ⟨_, hes⟩
      · exact Option.isSome_iff_exists.1 hes
    exact gslice_slice hu hx hlo hhi hmx (.inr ⟨.inl ⟨_, _, _, rfl⟩, sz, hsz⟩) e
  | succ n => exact gslice_slice hu hx hlo hhi hmx (.inl ⟨_, hes.resolve_right (by simp), .inr ⟨_, _, _, rfl⟩⟩) e

theorem OV_map {lo : Option Operand} {l : Option GV} (hx : ∀ x, lo = some x → EV w ρ Pp Pt σ a x) (e : gmay (eval σ) lo = some l) : OV w ρ Pp Pt l (lo.map a.eval) := by
  cases lo with
  | none => simp [gmay] at e; subst e; trivial
  | some y =>
    simp only [gmay, Option.map_eq_some_iff] at e
    obtain ⟨g, h1, rfl⟩ := e
    exact hx y rfl g h1

theorem op_slice {t : TypeId} {x : Operand} {lo hi mx : Option Operand} {v : GV} {h' : Heap} {lg : Lg} (ho : o.op = .slice t x lo hi mx) (hx : EV w ρ Pp Pt σ a x) (hlo : ∀ x, lo = some x → EV w ρ Pp Pt σ a x)
    (hhi : ∀ x, hi = some x → EV w ρ Pp Pt σ a x) (hmx : ∀ x, mx = some x → EV w ρ Pp Pt σ a x) (e : gop P C call (eval σ) o h = some (v, h', lg)) : OpTo P o a w (After Pt w ρ Pp h lg h' v) := by
  simp only [gop, ho, Option.bind_eq_bind, Option.bind_eq_some_iff] at e
  obtain ⟨g, h1, l, h2, u, h3, m, h4, e⟩ := e
  have q2 := OV_map hlo h2
  have q3 := OV_map hhi h3
  have q4 := OV_map hmx h4
  have hv := hx _ h1
  split at e
  · rename_i s hu
    simp only [Option.bind_eq_some_iff, Option.some.injEq, Prod.mk.injEq] at e
    obtain ⟨r, h5, rfl, rfl, rfl⟩ := e
    simp only [VR, VRi] at hv
    obtain ⟨z, h6, h7⟩ := gslice_str hu q2 q3 q4 h5
    exact .same (u := z) (by simp [execOp, ho, hv, h6]) h7
  · rename_i hu
    split at e
    · rename_i hes
      simp only [Option.bind_eq_some_iff, Option.some.injEq, Prod.mk.injEq] at e
      obtain ⟨r, h5, rfl, rfl, rfl⟩ := e
      obtain ⟨z, h6, h7⟩ := gslice_slice hu hv q2 q3 q4 (.inl ⟨_, hes, .inl ⟨_, _, _, _, rfl⟩⟩) h5
      exact .same (u := z) (by simp [execOp, ho, h6]) h7
    · cases e
  · rename_i hu
    split at e
    · rename_i hes
      simp only [Option.bind_eq_some_iff, Option.some.injEq, Prod.mk.injEq] at e
      obtain ⟨r, h5, rfl, rfl, rfl⟩ := e
      obtain ⟨z, h6, h7⟩ := gslice_fz hu hv q2 q3 q4 hes h5
      exact .same (u := z) (by simp [execOp, ho, h6]) h7
    · cases e
  · rename_i et hu
    simp only [Option.bind_eq_some_iff, Option.some.injEq, Prod.mk.injEq] at e
    obtain ⟨n, hn, r, h5, rfl, rfl, rfl⟩ := e
    obtain ⟨z, h6, h7⟩ := gslice_slice hu hv q2 q3 q4 (.inr ⟨.inr (.inl rfl), n, hn⟩) h5
    exact .same (u := z) (by simp [execOp, ho, h6]) h7
  · rename_i et hu
    simp only [Option.bind_eq_some_iff, Option.some.injEq, Prod.mk.injEq] at e
    obtain ⟨n, hn, r, h5, rfl, rfl, rfl⟩ := e
    obtain ⟨z, h6, h7⟩ := gslice_slice hu hv q2 q3 q4 (.inr ⟨.inr (.inr rfl), n, hn⟩) h5
    exact .same (u := z) (by simp [execOp, ho, h6]) h7
  · cases e
end

end Go.Proofs.Ytolhjndfplfjpaa.G
