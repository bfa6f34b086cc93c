/- The operations that change nothing, one by one: slices, structs, conversions. The operations that change nothing, one by one: literals, builtins, conv -/
import Derived.Test.YtlbnioapepelnaaZea266d40
import Derived.Laws.BytesArg
import Derived.Laws.Tables
set_option linter.unusedSimpArgs false
set_option linter.unusedVariables false
namespace Go.Proofs.Ytlbnioapepelnaa.G
open Go.RowKit

section
variable {P : Program} {Pt Pp : Nat → Prop} {w : World} {ρ : Map} {h : Heap} {a : Act} {o : Oper} {σ : GS} {C : Cfg} {call : GCall}

theorem run_bound {g : GV} {n : Int} {u : Value} {y : Nat} {code : BoundsCode} (hg : gint g = some n) (hv : VR w ρ Pp g Pt u) (h0 : 0 ≤ n) (h1 : n ≤ y) :
    (Instr.sliceBound u y code).run P w = .ok n.toNat w := by
  cases g <;> simp [gint] at hg
  subst hg
  simp only [VR, VRi] at hv
  subst hv
  simp [Instr.sliceBound, asIntOf, h0, h1]

def OV (w : World) (ρ : Map) (Pp Pt : Nat → Prop) : Option GV → Option Value → Prop
  | none, none => True
  | some g, some v => VR w ρ Pp g Pt v
  | _, _ => False

theorem run_bounds {isS : Bool} {len cap : Nat} {lo hi mx : Option GV} {ulo uhi umx : Option Value} {l hh m : Int} (hlo : OV w ρ Pp Pt lo ulo) (hhi : OV w ρ Pp Pt hi uhi) (hmx : OV w ρ Pp Pt mx umx)
    (el : gopt 0 lo = some l) (eh : gopt len hi = some hh)
    (em : gopt cap mx = some m) (hne : mx.isSome = true → hi.isSome = true)
    (h0 : 0 ≤ l) (h1 : l ≤ hh) (h2 : hh ≤ m) (h3 : m ≤ cap) :
    (Instr.sliceBounds isS len cap ulo uhi umx).run P w = .ok (l.toNat, hh.toNat, m.toNat) w := by
  have e1 : ∀ u, umx = some u → ∀ code, (Instr.sliceBound u cap code).run P w = .ok m.toNat w := by
    intro u hu code
    subst hu
    cases mx with
    | none => simp [OV] at hmx
    | some g => exact run_bound em hmx (by omega) h3
  have e1' : umx = none → m = cap := by
    intro hu
    subst hu
    cases mx with
    | none => simp [gopt] at em; omega
    | some g => simp [OV] at hmx
  have e2 : ∀ u, uhi = some u → ∀ code, (Instr.sliceBound u m.toNat code).run P w = .ok hh.toNat w := by
    intro u hu code
    subst hu
    cases hi with
    | none => simp [OV] at hhi
    | some g => exact run_bound eh hhi (by omega) (by omega)
  have e2' : uhi = none → hh = len := by
    intro hu
    subst hu
    cases hi with
    | none => simp [gopt] at eh; omega
    | some g => simp [OV] at hhi
  have e3 : ∀ u, ulo = some u → ∀ code, (Instr.sliceBound u hh.toNat code).run P w = .ok l.toNat w := by
    intro u hu code
    subst hu
    cases lo with
    | none => simp [OV] at hlo
    | some g => exact run_bound el hlo (by omega) (by omega)
  have e3' : ulo = none → l = 0 := by
    intro hu
    subst hu
    cases lo with
    | none => simp [gopt] at el; omega
    | some g => simp [OV] at hlo
  have e4 : umx.isSome = true → uhi.isSome = true := by
    intro hu
    cases umx with
    | none => cases hu
    | some u =>
      cases mx with
      | none => simp [OV] at hmx
      | some g =>
        have := hne rfl
        cases hi with
        | none => cases this
        | some g => cases uhi with
          | none => simp [OV] at hhi
          | some u => rfl
  cases umx with
  | none =>
    have hm := e1' rfl
    subst hm
    cases uhi with
    | none =>
      have hl := e2' rfl
      subst hl
      cases ulo with
      | none => have := e3' rfl; subst this; simp [Instr.sliceBounds]
      | some u =>
        have := e3 u rfl
        simp only [Int.toNat_natCast] at this
        simp [Instr.sliceBounds, this]
    | some v =>
      have hv := e2 v rfl
      simp only [Int.toNat_natCast] at hv
      cases ulo with
      | none => have := e3' rfl; subst this; simp [Instr.sliceBounds, hv]
      | some u => simp [Instr.sliceBounds, hv, e3 u rfl]
  | some x =>
    have hx := e1 x rfl
    cases uhi with
    | none => simp at e4
    | some v =>
      have hv := e2 v rfl
      cases ulo with
      | none => have := e3' rfl; subst this; simp [Instr.sliceBounds, hx, hv]
      | some u => simp [Instr.sliceBounds, hx, hv, e3 u rfl]

theorem gslice_str {t : TypeId} {s : ByteArray} {v : GV} {lo hi mx : Option GV} {ulo uhi umx : Option Value} (hu : P.underlying t = some .string) (hlo : OV w ρ Pp Pt lo ulo) (hhi : OV w ρ Pp Pt hi uhi) (hmx : OV w ρ Pp Pt mx umx)
    (e : gslice P t (.str s) lo hi mx = some v) : ∃ u, (Instr.sliceAt t (.string s) ulo uhi umx).run P w = .ok u w ∧ VR w ρ Pp v Pt u := by
  unfold gslice at e
  simp only [Option.bind_eq_bind, obsi] at e
  obtain ⟨l, hl, e⟩ := e
  split at e
  · cases e
  · split at e
    · cases e
    · rename_i hm
      simp only [obsi] at e
      obtain ⟨hh, hh', e⟩ := e
      split at e
      · rename_i hc
        cases e
        cases mx with
        | some _ => simp at hm
        | none =>
          cases umx with
          | some _ => simp [OV] at hmx
          | none =>
            have := run_bounds (P := P) (isS := false) (len := s.size) (cap := s.size) hlo hhi (mx := none) (umx := none) trivial hl hh' (m := s.size) rfl (by simp) hc.1 hc.2.1 (by omega) (by omega)
            exact ⟨_, by simp [Instr.sliceAt, Instr.slice, run_underlying hu, this], rfl⟩
      · cases e

theorem take_drop_nil {α : Type} {l : List α} {n m : Nat} (h : (l.drop n).take m ≠ []) : l ≠ [] ∧ m ≠ 0 := by
  constructor
  · intro e; subst e; simp at h
  · intro e; subst e; simp at h

theorem gslice_slice {t et : TypeId} {x : GV} {ux : Value} {v : GV} {lo hi mx : Option GV} {ulo uhi umx : Option Value} (hu : P.underlying t = some (.slice et)) (hx : VR w ρ Pp x Pt ux) (hlo : OV w ρ Pp Pt lo ulo) (hhi : OV w ρ Pp Pt hi uhi) (hmx : OV w ρ Pp Pt mx umx)
    (hs : (∃ es, gsize P et = some es ∧ ((∃ i off len cap, x = .sl i off len cap es) ∨ ∃ tg n cells, x = .fz tg (n + 1) es cells)) ∨ (((∃ tg es cells, x = .fz tg 0 es cells) ∨ x = .nils ∨ x = .emp) ∧ ∃ n, gsize P et = some n))
    (e : gslice P t x lo hi mx = some v) : ∃ u, (Instr.sliceAt t ux ulo uhi umx).run P w = .ok u w ∧ VR w ρ Pp v Pt u := by
  unfold gslice at e
  simp only [Option.bind_eq_bind, obsi] at e
  obtain ⟨l, hl, e⟩ := e
  split at e
  · cases e
  · rename_i hne
    have hne' : mx.isSome = true → hi.isSome = true := by
      intro hm
      cases hi with
      | none => simp [hm] at hne
      | some _ => rfl
    rcases hs with ⟨es, hes, ⟨i, off, len, cap, rfl⟩ | ⟨tg, n, cells, rfl⟩⟩ | ⟨⟨tg, es, cells, rfl⟩ | rfl | rfl, sz, hsz⟩
    · simp only [Option.bind_eq_bind, obsi] at e
      obtain ⟨m, hm, hh, hh', e⟩ := e
      obtain ⟨c, sh, A, cap', h6, rfl, h8, h9, h10⟩ := hx
      split at e
      · rename_i hc
        obtain ⟨c0, c1, c2, c3⟩ := hc
        have run : ∀ m' : Int, gopt cap' mx = some m' → hh ≤ m' → m' ≤ cap' → (Instr.sliceAt t (.slice (some A) len cap') ulo uhi umx).run P w = .ok (.slice (if m'.toNat = l.toNat then some A else some (A.add (l.toNat * es))) (hh.toNat - l.toNat) (m'.toNat - l.toNat)) w := by
          intro m' q1 q2 q3
          have := run_bounds (P := P) (isS := true) (len := len) (cap := cap') hlo hhi hmx hl hh' q1 hne' c0 c1 q2 q3
          simp [Instr.sliceAt, Instr.slice, run_underlying hu, this, run_sizeOf hes]
        split at e
        · rename_i hmc
          cases e
          -- the far bound in the other machine
          obtain ⟨m', q1, q2, q3, q4⟩ : ∃ m' : Int, gopt cap' mx = some m' ∧ m ≤ m' ∧ m' ≤ cap' ∧ 0 ≤ m' := by
            cases mx with
            | none => exact ⟨cap', rfl, by omega, by omega, by omega⟩
            | some g => exact ⟨m, hm, by omega, by omega, by omega⟩
          refine ⟨_, run m' q1 (by omega) q3, ?_⟩
          by_cases hml : m'.toNat = l.toNat
          · rw [if_pos hml]
            refine ⟨c, sh, A, m'.toNat - l.toNat, ?_, rfl, by omega, by omega, .inl (by omega)⟩
            rw [show off + l.toNat * es + (cap - l.toNat) * es = off + cap * es by
              rw [Nat.add_assoc, ← Nat.add_mul]; congr 2; omega]
            exact h6
          · rw [if_neg hml]
            refine ⟨c, sh, A.add (l.toNat * es), m'.toNat - l.toNat, ?_, rfl, by omega, by omega, .inr ?_⟩
            · rw [show off + l.toNat * es + (cap - l.toNat) * es = off + cap * es by
                rw [Nat.add_assoc, ← Nat.add_mul]; congr 2; omega]
              exact h6
            · rcases h10 with h10 | ⟨rfl, R, h11, h12⟩
              · omega
              · refine ⟨by rw [addr_add]; simp; omega, R, h11, ?_⟩
                have : (l.toNat + (m'.toNat - l.toNat)) * es ≤ cap' * es := Nat.mul_le_mul_right _ (by omega)
                rw [Nat.add_mul] at this
                omega
        · split at e
          · rename_i hml
            cases e
            subst hml
            cases mx with
            | none => simp [gopt] at hm; omega
            | some g =>
              refine ⟨_, run m hm (by omega) (by omega), ?_⟩
              rw [if_pos rfl]
              exact .inr ⟨A, by rw [show hh.toNat - m.toNat = 0 by omega, show m.toNat - m.toNat = 0 by omega]⟩
          · cases e
            cases mx with
            | none => exact ⟨_, run cap' rfl (by omega) (by omega), rfl, _, _, _, rfl⟩
            | some g => exact ⟨_, run m hm (by omega) (by omega), rfl, _, _, _, rfl⟩
      · cases e
    · simp only [Option.bind_eq_bind, obsi] at e
      obtain ⟨hh, hh', m, hm, e⟩ := e
      obtain ⟨A, cap', rfl, h8, h9, h10⟩ := hx.resolve_left (by simp)
      split at e
      · rename_i hc
        obtain ⟨c0, c1, c2, c3⟩ := hc
        obtain ⟨m', q1, q2, q3, q4⟩ : ∃ m' : Int, gopt cap' mx = some m' ∧ hh ≤ m' ∧ m' ≤ cap' ∧ 0 ≤ m' := by
          cases mx with
          | none => exact ⟨cap', rfl, by omega, by omega, by omega⟩
          | some g => exact ⟨m, hm, by omega, by omega, by omega⟩
        have := run_bounds (P := P) (isS := true) (len := n + 1) (cap := cap') hlo hhi hmx hl hh' q1 hne' c0 c1 q2 q3
        refine ⟨.slice (if m'.toNat = l.toNat then some A else some (A.add (l.toNat * es))) (hh.toNat - l.toNat) (m'.toNat - l.toNat), by simp [Instr.sliceAt, Instr.slice, run_underlying hu, this, run_sizeOf hes], ?_⟩
        split at e
        · rename_i hhl
          cases e
          subst hhl
          rw [show hh.toNat - hh.toNat = 0 by omega]
          split
          · exact .inr ⟨A, _, rfl, by omega, rfl, fun hc => (hc rfl).elim⟩
          · exact .inr ⟨_, _, rfl, by omega, rfl, fun hc => (hc rfl).elim⟩
        cases e
        have hlen : ((cells.drop (l.toNat * es)).take ((hh.toNat - l.toNat) * es)).length = (hh.toNat - l.toNat) * es := by
          have : (l.toNat + (hh.toNat - l.toNat)) * es ≤ (n + 1) * es := Nat.mul_le_mul_right _ (by omega)
          rw [Nat.add_mul] at this
          simp only [List.length_take, List.length_drop]
          omega
        by_cases hml : m'.toNat = l.toNat
        · rw [if_pos hml]
          refine .inr ⟨A, _, rfl, by omega, hlen, fun hc => ?_⟩
          have h13 := (take_drop_nil hc).2
          rw [show hh.toNat - l.toNat = 0 by omega] at h13
          simp at h13
        · rw [if_neg hml]
          refine .inr ⟨_, _, rfl, by omega, hlen, fun hc => ?_⟩
          obtain ⟨h11, us, h12, h13⟩ := h10 (take_drop_nil hc).1
          refine ⟨by rw [add_block]; exact h11, (us.drop (l.toNat * es)).take ((hh.toNat - l.toNat) * es), VRs_take _ (VRs_drop _ h12), fun j u hj => ?_⟩
          rw [List.getElem?_take] at hj
          split at hj
          · rw [List.getElem?_drop] at hj
            rw [add_add]
            exact h13 _ _ hj
          · cases hj
      · cases e
    · simp only [Option.bind_eq_bind, obsi] at e
      obtain ⟨hh, hh', m, hm, e⟩ := e
      split at e
      · rename_i hc
        obtain ⟨rfl, rfl, rfl⟩ := hc
        cases e
        rcases hx with ⟨_, _, _, rfl⟩ | ⟨A, cap', rfl, h8, h9, h10⟩
        · have q1 : gopt (0 : Nat) mx = some 0 := by cases mx <;> first | rfl | exact hm
          have := run_bounds (P := P) (isS := true) (len := 0) (cap := 0) hlo hhi hmx hl hh' q1 hne' (by omega) (by omega) (by omega) (by omega)
          exact ⟨.slice none 0 0, by simp [Instr.sliceAt, Instr.slice, run_underlying hu, this, run_sizeOf hsz], .inl ⟨rfl, rfl, rfl, rfl⟩⟩
        · obtain ⟨m', q1, q2, q3⟩ : ∃ m' : Int, gopt cap' mx = some m' ∧ 0 ≤ m' ∧ m' ≤ cap' := by
            cases mx with
            | none => exact ⟨cap', rfl, by omega, by omega⟩
            | some g => exact ⟨0, hm, by omega, by omega⟩
          have := run_bounds (P := P) (isS := true) (len := 0) (cap := cap') hlo hhi hmx hl hh' q1 hne' (by omega) (by omega) q2 q3
          refine ⟨_, by simp only [Instr.sliceAt, Instr.slice, Sem.run_bind, run_underlying hu, Result.andThen_ok, this, run_sizeOf hsz]; rfl, ?_⟩
          split
          · exact .inr ⟨A, _, rfl, by omega, rfl, fun hc => (hc rfl).elim⟩
          · exact .inr ⟨_, _, rfl, by omega, rfl, fun hc => (hc rfl).elim⟩
      · cases e
    · simp only [Option.bind_eq_bind, obsi] at e
      obtain ⟨hh, hh', m, hm, e⟩ := e
      simp only [VR, VRi] at hx
      subst hx
      split at e
      · rename_i hc
        obtain ⟨rfl, rfl, rfl⟩ := hc
        cases e
        have := run_bounds (P := P) (isS := true) (len := 0) (cap := 0) hlo hhi hmx hl hh' hm hne' (by omega) (by omega) (by omega) (by omega)
        exact ⟨.slice none 0 0, by simp [Instr.sliceAt, Instr.slice, run_underlying hu, this, run_sizeOf hsz], rfl⟩
      · cases e
    · simp only [Option.bind_eq_bind, obsi] at e
      obtain ⟨hh, hh', m, hm, e⟩ := e
      split at e
      · rename_i hc
        obtain ⟨rfl, rfl, rfl⟩ := hc
        cases e
        have := run_bounds (P := P) (isS := true) (len := 0) (cap := 0) hlo hhi hmx hl hh' hm hne' (by omega) (by omega) (by omega) (by omega)
        rcases hx with rfl | ⟨A, rfl⟩
        · exact ⟨.slice none 0 0, by simp [Instr.sliceAt, Instr.slice, run_underlying hu, this, run_sizeOf hsz], .inl rfl⟩
        · exact ⟨.slice (some A) 0 0, by simp [Instr.sliceAt, Instr.slice, run_underlying hu, this, run_sizeOf hsz], .inr ⟨A, rfl⟩⟩
      · cases e

theorem gslice_fz {t et : TypeId} {tg : Bool} {n es : Nat} {cells : List GV} {ux : Value} {v : GV} {lo hi mx : Option GV} {ulo uhi umx : Option Value} (hu : P.underlying t = some (.slice et)) (hx : VR w ρ Pp (.fz tg n es cells) Pt ux) (hlo : OV w ρ Pp Pt lo ulo) (hhi : OV w ρ Pp Pt hi uhi) (hmx : OV w ρ Pp Pt mx umx)
    (hes : gsize P et = some es ∨ (n = 0 ∧ (gsize P et).isSome = true))
    (e : gslice P t (.fz tg n es cells) lo hi mx = some v) : ∃ u, (Instr.sliceAt t ux ulo uhi umx).run P w = .ok u w ∧ VR w ρ Pp v Pt u := by
  cases n with
  | zero =>
    obtain ⟨sz, hsz⟩ : ∃ sz, gsize P et = some sz := by
      rcases hes with hes | ⟨_, hes⟩
      · exact ⟨_, hes⟩
      · exact Option.isSome_iff_exists.1 hes
    exact gslice_slice hu hx hlo hhi hmx (.inr ⟨.inl ⟨_, _, _, rfl⟩, sz, hsz⟩) e
  | succ n => exact gslice_slice hu hx hlo hhi hmx (.inl ⟨_, hes.resolve_right (by simp), .inr ⟨_, _, _, rfl⟩⟩) e

theorem OV_map {lo : Option Operand} {l : Option GV} (hx : ∀ x, lo = some x → EV w ρ Pp Pt σ a x) (e : gmay (eval σ) lo = some l) : OV w ρ Pp Pt l (lo.map a.eval) := by
  cases lo with
  | none => simp [gmay] at e; subst e; trivial
  | some y =>
    simp only [gmay, Option.map_eq_some_iff] at e
    obtain ⟨g, h1, rfl⟩ := e
    exact hx y rfl g h1

theorem op_slice {t : TypeId} {x : Operand} {lo hi mx : Option Operand} {v : GV} {h' : Heap} {lg : Lg} (ho : o.op = .slice t x lo hi mx) (hx : EV w ρ Pp Pt σ a x) (hlo : ∀ x, lo = some x → EV w ρ Pp Pt σ a x)
    (hhi : ∀ x, hi = some x → EV w ρ Pp Pt σ a x) (hmx : ∀ x, mx = some x → EV w ρ Pp Pt σ a x) (e : gop P C call (eval σ) o h = some (v, h', lg)) : OpTo P o a w (After Pt w ρ Pp h lg h' v) := by
  simp only [gop, ho, Option.bind_eq_bind, obsi] at e
  obtain ⟨g, h1, l, h2, u, h3, m, h4, e⟩ := e
  have q2 := OV_map hlo h2
  have q3 := OV_map hhi h3
  have q4 := OV_map hmx h4
  have hv := hx _ h1
  split at e
  · rename_i s hu
    simp only [obsi, Option.some.injEq, Prod.mk.injEq] at e
    obtain ⟨r, h5, rfl, rfl, rfl⟩ := e
    simp only [VR, VRi] at hv
    obtain ⟨z, h6, h7⟩ := gslice_str hu q2 q3 q4 h5
    exact .same (u := z) (by simp [execOp, ho, hv, h6]) h7
  · rename_i hu
    split at e
    · rename_i hes
      simp only [obsi, Option.some.injEq, Prod.mk.injEq] at e
      obtain ⟨r, h5, rfl, rfl, rfl⟩ := e
      obtain ⟨z, h6, h7⟩ := gslice_slice hu hv q2 q3 q4 (.inl ⟨_, hes, .inl ⟨_, _, _, _, rfl⟩⟩) h5
      exact .same (u := z) (by simp [execOp, ho, h6]) h7
    · cases e
  · rename_i hu
    split at e
    · rename_i hes
      simp only [obsi, Option.some.injEq, Prod.mk.injEq] at e
      obtain ⟨r, h5, rfl, rfl, rfl⟩ := e
      obtain ⟨z, h6, h7⟩ := gslice_fz hu hv q2 q3 q4 hes h5
      exact .same (u := z) (by simp [execOp, ho, h6]) h7
    · cases e
  · rename_i et hu
    simp only [obsi, Option.some.injEq, Prod.mk.injEq] at e
    obtain ⟨n, hn, r, h5, rfl, rfl, rfl⟩ := e
    obtain ⟨z, h6, h7⟩ := gslice_slice hu hv q2 q3 q4 (.inr ⟨.inr (.inl rfl), n, hn⟩) h5
    exact .same (u := z) (by simp [execOp, ho, h6]) h7
  · rename_i et hu
    simp only [obsi, Option.some.injEq, Prod.mk.injEq] at e
    obtain ⟨n, hn, r, h5, rfl, rfl, rfl⟩ := e
    obtain ⟨z, h6, h7⟩ := gslice_slice hu hv q2 q3 q4 (.inr ⟨.inr (.inr rfl), n, hn⟩) h5
    exact .same (u := z) (by simp [execOp, ho, h6]) h7
  · cases e
end

end Go.Proofs.Ytlbnioapepelnaa.G

namespace Go.Proofs.Ytlbnioapepelnaa.G
open Go.RowKit

theorem set_at {α : Type} : ∀ (l : List α) (i : Nat) (c : α), i < l.length → l.set i c = l.take i ++ c :: l.drop (i + 1)
  | [], i, c, h => by simp at h
  | x :: l, 0, c, _ => by simp
  | x :: l, i + 1, c, h => by simp [set_at l i c (by simpa using h)]

theorem fold_set : ∀ (ws : List Value) (cells : Array Value) (off k : Nat), off + k + ws.length ≤ cells.size →
    ((ws.zipIdx k).foldl (fun cs (c, j) => cs.setIfInBounds (off + j) c) cells).toList = cells.toList.take (off + k) ++ ws ++ cells.toList.drop (off + k + ws.length)
  | [], cells, off, k, _ => by simp
  | c :: ws, cells, off, k, h => by
    have h' : off + k + 1 + ws.length ≤ cells.size := by simpa [Nat.add_assoc, Nat.add_comm 1] using h
    rw [List.zipIdx_cons, List.foldl_cons, fold_set ws _ off (k + 1) (by simp; omega)]
    have hl : off + k < cells.toList.length := by simp; omega
    simp only [Array.toList_setIfInBounds]
    rw [set_at _ _ _ hl]
    have ht : (cells.toList.take (off + k)).length = off + k := by simp; omega
    rw [List.take_append, List.drop_append, ht]
    rw [List.take_of_length_le (by omega : (cells.toList.take (off + k)).length ≤ off + (k + 1)), List.drop_of_length_le (by omega : (cells.toList.take (off + k)).length ≤ off + (k + 1) + ws.length)]
    rw [show off + (k + 1) - (off + k) = 1 by omega, show off + (k + 1) + ws.length - (off + k) = ws.length + 1 by omega]
    simp [List.drop_drop, Nat.add_assoc, Nat.add_comm, Nat.add_left_comm]

section
variable {P : Program} {Pt Pp : Nat → Prop} {w : World} {ρ : Map} {h : Heap} {a : Act} {o : Oper} {σ : GS} {C : Cfg} {call : GCall}

theorem VRs_splice {cs vs : List GV} {us ws : List Value} {off : Nat} (h : VRs w ρ Pp cs Pt us) (h' : VRs w ρ Pp vs Pt ws) :
    VRs w ρ Pp (splice cs off vs) Pt (us.take off ++ ws ++ us.drop (off + ws.length)) := by
  unfold splice
  rw [VRs_len h']
  exact VRs_append (VRs_append (VRs_take _ h) h') (VRs_drop _ h)

theorem splice_len {cs vs : List GV} {off : Nat} (h : off + vs.length ≤ cs.length) : (splice cs off vs).length = cs.length := by
  unfold splice
  simp
  omega

theorem fill_run (place : Nat → Option (Nat × Nat)) : ∀ (ps : List (Nat × GV)) (qs : List (Nat × Value)) (cells : List GV) (us : Array Value) (r : List GV), gfill place cells ps = some r → VRs w ρ Pp cells Pt us.toList →
    qs.length = ps.length → (∀ (j : Nat) (p : Nat × GV) (q : Nat × Value), ps[j]? = some p → qs[j]? = some q → q.1 = p.1 ∧ VR w ρ Pp p.2 Pt q.2) → ∃ vs : Array Value, Instr.fill place us qs = some vs ∧ VRs w ρ Pp r Pt vs.toList
  | [], [], cells, us, r, e, hc, _, _ => by
    simp only [gfill, Option.some.injEq] at e
    subst e
    exact ⟨us, rfl, hc⟩
  | [], q :: qs, _, _, _, _, _, hl, _ => by simp at hl
  | p :: ps, [], _, _, _, _, _, hl, _ => by simp at hl
  | (i, v) :: ps, (i', v') :: qs, cells, us, r, e, hc, hl, hp => by
    obtain ⟨h1, h2⟩ := hp 0 _ _ rfl rfl
    dsimp only at h1 h2
    subst h1
    unfold gfill at e
    unfold Instr.fill
    split at e
    · cases e
    · rename_i off size hpl
      split at e
      · rename_i hs
        have hl2 := VRs_len (VR_cells h2)
        have hl1 := VRs_len hc
        simp only [Array.length_toList] at hl1 hl2
        have hcnd : ¬(v'.cells.size ≠ size ∨ off + v'.cells.size > us.size) := by
          rw [hl1, hl2]; omega
        have := fill_run place ps qs (splice cells off v.cells) (v'.cells.zipIdx.foldl (fun cs (c, j) => cs.setIfInBounds (off + j) c) us) r e ?_ (by simpa using hl) (fun j p q e1 e2 => hp (j + 1) p q (by simpa using e1) (by simpa using e2))
        · obtain ⟨vs, h3, h4⟩ := this
          refine ⟨vs, ?_, h4⟩
          simp only [hpl]
          rw [if_neg (by simpa using hcnd)]
          exact h3
        · rw [← Array.foldl_toList, Array.toList_zipIdx, fold_set _ _ _ _ (by simp [hl1, hl2]; omega)]
          exact VRs_splice hc (VR_cells h2)
      · cases e

theorem gparts_of {parts : Array (Nat × Operand)} {ps : List (Nat × GV)} (e : gparts (eval σ) parts = some ps) (hx : ∀ p, p ∈ parts.toList → EV w ρ Pp Pt σ a p.2) :
    (parts.map fun (i, x) => (i, a.eval x)).toList.length = ps.length ∧ ∀ (j : Nat) (p : Nat × GV) (q : Nat × Value), ps[j]? = some p → (parts.map fun (i, x) => (i, a.eval x)).toList[j]? = some q → q.1 = p.1 ∧ VR w ρ Pp p.2 Pt q.2 := by
  unfold gparts at e
  rw [Array.toList_map]
  generalize parts.toList = l at e hx
  induction l generalizing ps with
  | nil => simp at e; subst e; simp
  | cons x l ih =>
    simp only [List.mapM_cons, Option.bind_eq_bind, obsi, Option.pure_def, Option.some.injEq] at e
    obtain ⟨⟨i, g⟩, h1, gs', h2, rfl⟩ := e
    obtain ⟨k1, k2⟩ := ih h2 (fun p hp => hx p (by simp [hp]))
    refine ⟨by simp at k1 ⊢; exact k1, fun j p q e1 e2 => ?_⟩
    cases j with
    | zero =>
      simp only [Option.map_eq_some_iff, Prod.mk.injEq] at h1
      obtain ⟨g', h3, rfl, rfl⟩ := h1
      simp at e1 e2
      subst e1
      subst e2
      exact ⟨rfl, hx x (by simp) _ h3⟩
    | succ j => exact k2 j p q (by simpa using e1) (by simpa using e2)

theorem gzero_run {t : TypeId} {z : List GV} (e : gzero P t = some z) : ∃ v : Value, (∀ w, (zeroValue t).run P w = .ok v w) ∧ ∀ (w : World) (ρ : Map) (Pp Pt : Nat → Prop), VRs w ρ Pp z Pt v.cells.toList := by
  unfold gzero at e
  simp only [Option.bind_eq_bind, obsi, Option.some.injEq] at e
  obtain ⟨i, h1, v, h2, g, h3, rfl⟩ := e
  exact ⟨v, fun w => by simp [zeroValue, run_typeInfo h1, h2], fun w ρ Pp Pt => VR_cells (VR_ofV h3)⟩

theorem op_build {t : TypeId} {parts : Array (Nat × Operand)} {v : GV} {h' : Heap} {lg : Lg} (ho : o.op = .build t parts) (hx : ∀ p, p ∈ parts.toList → EV w ρ Pp Pt σ a p.2) (e : gop P C call (eval σ) o h = some (v, h', lg)) :
    OpTo P o a w (After Pt w ρ Pp h lg h' v) := by
  simp only [gop, ho, Option.bind_eq_bind, obsi] at e
  obtain ⟨z, hz, ps, hp, e⟩ := e
  obtain ⟨zv, h1, h2⟩ := gzero_run hz
  obtain ⟨h3, h4⟩ := gparts_of hp hx
  split at e
  · rename_i fs hu
    simp only [obsi, Option.some.injEq, Prod.mk.injEq] at e
    obtain ⟨places, hpl, cs, hf, rfl, rfl, rfl⟩ := e
    obtain ⟨vs, h5, h6⟩ := fill_run (w := w) (ρ := ρ) (Pp := Pp) (Pt := Pt) _ ps _ z zv.cells cs hf (h2 ..) h3 h4
    refine .same (u := .agg vs) ?_ ⟨vs, rfl, h6⟩
    have hm : ∀ (l : List Field) (places : List (Nat × Nat)), (l.mapM fun f => (gsize P f.type).map fun n => (f.offset, n)) = some places →
        (l.mapM fun f => (do pure (f.offset, ← sizeOf f.type) : Sem (Nat × Nat))).run P w = .ok places w := by
      intro l
      induction l with
      | nil => intro places e; simp at e; subst e; simp
      | cons f l ih =>
        intro places e
        simp only [List.mapM_cons, Option.bind_eq_bind, obsi, Option.pure_def, Option.some.injEq, Option.map_eq_some_iff] at e
        obtain ⟨p, ⟨n, hn, rfl⟩, ps, hps, rfl⟩ := e
        have h9 := ih ps hps
        simp only [List.mapM_cons, Sem.run_bind, run_sizeOf hn, Result.andThen_ok, Sem.run_pure]
        rw [h9]
        rfl
    have hm' := hm _ _ hpl
    have e1 : (fs.mapM fun f => (do pure (f.offset, ← sizeOf f.type) : Sem (Nat × Nat))).run P w = .ok places.toArray w := by
      rw [Array.mapM_eq_mapM_toList]
      simp only [Sem.run_map, hm', Result.andThen_ok]
    simp only [execOp, ho, Instr.build, Sem.run_bind, h1, Result.andThen_ok, run_underlying hu, e1]
    have e2 : (fun x : Nat => places.toArray[x]?) = fun x : Nat => places[x]? := by funext x; simp
    simp only [e2, h5, Sem.run_pure, Result.andThen_ok]
  · rename_i hu
    simp only [obsi, Option.some.injEq, Prod.mk.injEq] at e
    obtain ⟨n, hn, cs, hf, rfl, rfl, rfl⟩ := e
    obtain ⟨vs, h5, h6⟩ := fill_run (w := w) (ρ := ρ) (Pp := Pp) (Pt := Pt) _ ps _ z zv.cells cs hf (h2 ..) h3 h4
    refine .same (u := .agg vs) ?_ ⟨vs, rfl, h6⟩
    simp only [execOp, ho, Instr.build, Sem.run_bind, h1, Result.andThen_ok, run_underlying hu, run_sizeOf hn, h5, Sem.run_pure]
  · cases e
end

end Go.Proofs.Ytlbnioapepelnaa.G

namespace Go.Proofs.Ytlbnioapepelnaa.G
open Go.RowKit

section
variable {P : Program} {Pt Pp : Nat → Prop} {w : World} {ρ : Map} {h : Heap} {a : Act} {o : Oper} {σ : GS} {C : Cfg} {call : GCall}

theorem gcells_run {es n : Nat} {v : GV} {cs : List GV} {r : List Nat} {u : Value} (e : gcells h es v = some (n, cs, r)) (hv : VR w ρ Pp v Pt u) (hb : ∀ i, i ∈ r → HB w ρ Pp Pt h i) :
    (u = .slice none 0 0 ∧ n = 0 ∧ cs = [] ∧ ∀ s, v ≠ .str s) ∨
    (∃ A cap' us, u = .slice (some A) n cap' ∧ n ≤ cap' ∧ VRs w ρ Pp cs Pt us ∧ cs.length = n * es ∧ ∀ (j : Nat) (u : Value), us[j]? = some u → w.cell? (A.add j) = some u) ∨
    (∃ s, u = .string s ∧ v = .str s ∧ n = s.size ∧ es = 1 ∧ cs = s.toList.map fun b => .int .u8 b.toNat) := by
  unfold gcells at e
  split at e
  · rename_i i off len cap es'
    simp only [Option.bind_eq_bind, obsi] at e
    obtain ⟨cs0, h1, e⟩ := e
    split at e
    · rename_i hc
      obtain ⟨rfl, hle⟩ := hc
      simp only [Option.some.injEq, Prod.mk.injEq] at e
      obtain ⟨rfl, rfl, rfl⟩ := e
      obtain ⟨c, sh, A, cap', h6, rfl, h8, h9, h10⟩ := hv
      have hlen := (cellsAt_eq h1).2
      have hmul : len * es' ≤ cap * es' := Nat.mul_le_mul_right _ hle
      obtain ⟨us, h11, h12⟩ := BR_cells (cells_at h1 (hb i (by simp)) h6).1 off (len * es') (by omega)
      refine .inr (.inl ⟨A, cap', us, rfl, by omega, h11, by simp; omega, fun j u hj => ?_⟩)
      rcases h10 with h10 | ⟨rfl, _⟩
      · have hl := VRs_len h11
        have := (List.getElem?_eq_some_iff.1 hj).1
        have : len = 0 := by omega
        subst this
        simp at hl
        subst hl
        simp at hj
      · exact h12 j u hj
    · cases e
  · rename_i tg n0 es0 cells0
    split at e
    · rename_i hn0
      subst hn0
      simp only [Option.some.injEq, Prod.mk.injEq] at e
      obtain ⟨rfl, rfl, rfl⟩ := e
      rcases hv with ⟨_, _, _, rfl⟩ | ⟨A, cap', rfl, h8, h9, h10⟩
      · exact .inl ⟨rfl, rfl, rfl, by simp⟩
      · exact .inr (.inl ⟨A, cap', [], rfl, h8, by simp [VRs, VRsi], by simp, fun j u hj => by simp at hj⟩)
    split at e
    · rename_i hn0 hes
      subst hes
      simp only [Option.some.injEq, Prod.mk.injEq] at e
      obtain ⟨rfl, rfl, rfl⟩ := e
      obtain ⟨A, cap', rfl, h8, h9, h10⟩ := hv.resolve_left (fun h => hn0 h.1)
      by_cases hc : cells0 = []
      · subst hc
        exact .inr (.inl ⟨A, cap', [], rfl, h8, by simp [VRs, VRsi], h9, fun j u hj => by simp at hj⟩)
      · obtain ⟨h11, us, h12, h13⟩ := h10 hc
        refine .inr (.inl ⟨A, cap', us, rfl, h8, ?_, h9, h13⟩)
        refine VRs_mono ((Keep.refl w ρ Pp).e0 ρ) _ _ _ _ (fun c hc => ?_) (fun c _ => rfl) h12
        by_cases e : tg = true <;> simp [e] at hc <;> simp [hc]
    · cases e
  · simp only [Option.some.injEq, Prod.mk.injEq] at e
    obtain ⟨rfl, rfl, rfl⟩ := e
    simp only [VR, VRi] at hv
    exact .inl ⟨hv, rfl, rfl, by simp⟩
  · simp only [Option.some.injEq, Prod.mk.injEq] at e
    obtain ⟨rfl, rfl, rfl⟩ := e
    rcases hv with rfl | ⟨A, rfl⟩
    · exact .inl ⟨rfl, rfl, rfl, by simp⟩
    · exact .inr (.inl ⟨A, 0, [], rfl, by omega, by simp [VRs, VRsi], by simp, fun j u hj => by simp at hj⟩)
  · split at e
    · rename_i hes
      simp only [Option.some.injEq, Prod.mk.injEq] at e
      obtain ⟨rfl, rfl, rfl⟩ := e
      simp only [VR, VRi] at hv
      exact .inr (.inr ⟨_, hv, rfl, rfl, hes, rfl⟩)
    · cases e
  · cases e

theorem VRs_ints {k : IntKind} : ∀ {cs : List GV} {us : List Value} {ns : List Int}, VRs w ρ Pp cs Pt us → cs.mapM gbyte = some ns → us = ns.map (Value.int .u8)
  | [], us, ns, hv, e => by simp at e; subst e; simpa [VRs, VRsi] using hv
  | c :: cs, us, ns, hv, e => by
    simp only [List.mapM_cons, Option.bind_eq_bind, obsi, Option.pure_def, Option.some.injEq] at e
    obtain ⟨n, h1, ns', h2, rfl⟩ := e
    obtain ⟨u, us', rfl, h3, h4⟩ := hv
    have := VRs_ints (k := k) h4 h2
    subst this
    unfold gbyte at h1
    split at h1
    · cases h1
      simp only [VR, VRi] at h3
      subst h3
      rfl
    · cases h1

theorem VRs_mapM {l : List Operand} {gs : List GV} (e : l.mapM (eval σ) = some gs) (hx : ∀ x, x ∈ l → EV w ρ Pp Pt σ a x) : VRs w ρ Pp gs Pt (l.map a.eval) := by
  induction l generalizing gs with
  | nil => simp at e; subst e; simp [VRs, VRsi]
  | cons x l ih =>
    simp only [List.mapM_cons, Option.bind_eq_bind, obsi, Option.pure_def, Option.some.injEq] at e
    obtain ⟨g, h1, gs', h2, rfl⟩ := e
    exact ⟨_, _, rfl, hx x (by simp) _ h1, ih h2 (fun y hy => hx y (by simp [hy]))⟩

theorem fold_min : ∀ (gs : List GV) (us : List Value) (g r : GV) (u : Value), gs.foldlM gmin g = some r → VR w ρ Pp g Pt u → VRs w ρ Pp gs Pt us → ∃ z, (us.foldlM Builtin.min2 u).run P w = .ok z w ∧ VR w ρ Pp r Pt z
  | [], us, g, r, u, e, hg, hs => by
    simp [VRs, VRsi] at hs
    subst hs
    simp at e
    subst e
    exact ⟨u, rfl, hg⟩
  | y :: gs, us, g, r, u, e, hg, hs => by
    obtain ⟨v, vs, rfl, h1, h2⟩ := hs
    simp only [List.foldlM_cons, Option.bind_eq_bind, obsi] at e
    obtain ⟨m, h3, h4⟩ := e
    unfold gmin at h3
    split at h3
    · cases h3
      simp only [VR, VRi] at hg h1
      subst hg
      subst h1
      obtain ⟨z, h5, h6⟩ := fold_min gs vs _ r (.int _ _) h4 (by rfl) h2
      exact ⟨z, by simp only [List.foldlM_cons, Builtin.min2, Sem.run_bind, Sem.run_pure, Result.andThen_ok]; exact h5, h6⟩
    · cases h3
theorem fold_max : ∀ (gs : List GV) (us : List Value) (g r : GV) (u : Value), gs.foldlM gmax g = some r → VR w ρ Pp g Pt u → VRs w ρ Pp gs Pt us → ∃ z, (us.foldlM Builtin.max2 u).run P w = .ok z w ∧ VR w ρ Pp r Pt z
  | [], us, g, r, u, e, hg, hs => by
    simp [VRs, VRsi] at hs
    subst hs
    simp at e
    subst e
    exact ⟨u, rfl, hg⟩
  | y :: gs, us, g, r, u, e, hg, hs => by
    obtain ⟨v, vs, rfl, h1, h2⟩ := hs
    simp only [List.foldlM_cons, Option.bind_eq_bind, obsi] at e
    obtain ⟨m, h3, h4⟩ := e
    unfold gmax at h3
    split at h3
    · cases h3
      simp only [VR, VRi] at hg h1
      subst hg
      subst h1
      obtain ⟨z, h5, h6⟩ := fold_max gs vs _ r (.int _ _) h4 (by rfl) h2
      exact ⟨z, by simp only [List.foldlM_cons, Builtin.max2, Sem.run_bind, Sem.run_pure, Result.andThen_ok]; exact h5, h6⟩
    · cases h3

theorem exec_builtin {c : Call} {b : Builtin} (ho : o.op = .call c) (hc : c.callee = .builtin b) (ev : Operand → Value) :
    ∃ k, execOp ev o = builtin b c.argTypes o.type k (c.args.map ev) := by
  simp only [execOp, ho, resolve, hc, pure_bind, invoke]
  exact ⟨_, rfl⟩

theorem glen_run {v : GV} {n : Nat} {u : Value} (e : glen v = some n) (hn : ∀ s, v ≠ .str s) (hv : VR w ρ Pp v Pt u) : ∃ A c, u = .slice A n c := by
  unfold glen at e
  split at e
  · cases e; obtain ⟨c, sh, A, cap', h6, rfl, _⟩ := hv; exact ⟨_, _, rfl⟩
  · cases e; rcases hv with ⟨rfl, _, _, rfl⟩ | ⟨A, cap', rfl, _⟩ <;> exact ⟨_, _, rfl⟩
  · cases e; simp only [VR, VRi] at hv; exact ⟨_, _, hv⟩
  · cases e; rcases hv with rfl | ⟨A, rfl⟩ <;> exact ⟨_, _, rfl⟩
  · exact absurd rfl (hn _)
  · cases e

theorem op_quiet {c : Call} {b : Builtin} {v : GV} {h' : Heap} {lg : Lg} (ho : o.op = .call c) (hc : c.callee = .builtin b) (hb : b = .len ∨ b = .cap ∨ b = .min ∨ b = .max) (hx : ∀ x, x ∈ c.args.toList → EV w ρ Pp Pt σ a x)
    (e : gop P C call (eval σ) o h = some (v, h', lg)) : OpTo P o a w (After Pt w ρ Pp h lg h' v) := by
  simp only [gop, ho, hc, Option.bind_eq_bind, obsi] at e
  obtain ⟨gs, h1, e⟩ := e
  have h2 := VRs_mapM h1 hx
  have hargs : (c.args.map a.eval).toList = c.args.toList.map a.eval := by simp
  have key : ∀ (x : Value), (∀ k, (builtin b c.argTypes o.type k (c.args.map a.eval)).run P w = .ok (.value x) w) → VR w ρ Pp v Pt x → lg = ⟨[], []⟩ → h' = h → OpTo P o a w (After Pt w ρ Pp h lg h' v) := by
    intro x e1 e2 e3 e4
    subst e3
    subst e4
    obtain ⟨k, hk⟩ := exec_builtin ho hc a.eval
    exact .same (u := x) (by rw [hk]; exact e1 k) e2
  unfold gbuiltin at e
  split at e
  · simp only [Option.bind_eq_bind, obsi] at e
    obtain ⟨t, ht, e⟩ := e
    obtain ⟨u, us, h3, h4, h5⟩ := h2
    simp only [VRs, VRsi] at h5
    subst h5
    have e0 : (c.args.map a.eval)[0]? = some u := by rw [← Array.getElem?_toList, hargs, h3]; rfl
    split at e
    · rename_i s hu
      simp only [Option.some.injEq, Prod.mk.injEq] at e
      obtain ⟨rfl, rfl, rfl⟩ := e
      simp only [VR, VRi] at h4
      subst h4
      exact key _ (by intro k; simp [builtin, Builtin.len_, ht, e0, run_underlying hu]; rfl) (by simp [VR, VRi, goInt]) rfl rfl
    · rename_i hu
      split at e
      · cases e
      · rename_i hns
        simp only [obsi, Option.some.injEq, Prod.mk.injEq] at e
        obtain ⟨n, hn, rfl, rfl, rfl⟩ := e
        obtain ⟨A, cp, rfl⟩ := glen_run hn (fun s e => hns s e) h4
        exact key _ (by intro k; simp [builtin, Builtin.len_, ht, e0, run_underlying hu]; rfl) (by simp [VR, VRi, goInt]) rfl rfl
    · rename_i hu
      simp only [Option.some.injEq, Prod.mk.injEq] at e
      obtain ⟨rfl, rfl, rfl⟩ := e
      exact key _ (by intro k; simp [builtin, Builtin.len_, ht, e0, run_underlying hu]; rfl) (by simp [VR, VRi, goInt]) rfl rfl
    · cases e
  · simp only [Option.bind_eq_bind, obsi] at e
    obtain ⟨t, ht, e⟩ := e
    obtain ⟨u, us, h3, h4, h5⟩ := h2
    simp only [VRs, VRsi] at h5
    subst h5
    have e0 : (c.args.map a.eval)[0]? = some u := by rw [← Array.getElem?_toList, hargs, h3]; rfl
    split at e
    · rename_i hu
      simp only [Option.some.injEq, Prod.mk.injEq] at e
      obtain ⟨rfl, rfl, rfl⟩ := e
      simp only [VR, VRi] at h4
      subst h4
      exact key _ (by intro k; simp [builtin, Builtin.cap_, ht, e0, run_underlying hu]; rfl) (by simp [VR, VRi, goInt]) rfl rfl
    · rename_i hu
      simp only [Option.some.injEq, Prod.mk.injEq] at e
      obtain ⟨rfl, rfl, rfl⟩ := e
      rcases h4 with rfl | ⟨A, rfl⟩ <;>
      exact key _ (by intro k; simp [builtin, Builtin.cap_, ht, e0, run_underlying hu]; rfl) (by simp [VR, VRi, goInt]) rfl rfl
    · cases e
  · simp only [Option.bind_eq_bind, obsi, Option.some.injEq, Prod.mk.injEq] at e
    obtain ⟨r, hr, rfl, rfl, rfl⟩ := e
    obtain ⟨u, us, h3, h4, h5⟩ := h2
    obtain ⟨z, h6, h7⟩ := fold_min (P := P) _ us _ _ u hr h4 h5
    exact key z (by intro k; simp only [builtin, Builtin.min_, hargs, h3, Sem.run_bind, h6, Result.andThen_ok, Sem.run_pure]) h7 rfl rfl
  · simp only [Option.bind_eq_bind, obsi, Option.some.injEq, Prod.mk.injEq] at e
    obtain ⟨r, hr, rfl, rfl, rfl⟩ := e
    obtain ⟨u, us, h3, h4, h5⟩ := h2
    obtain ⟨z, h6, h7⟩ := fold_max (P := P) _ us _ _ u hr h4 h5
    exact key z (by intro k; simp only [builtin, Builtin.max_, hargs, h3, Sem.run_bind, h6, Result.andThen_ok, Sem.run_pure]) h7 rfl rfl
  · simp at hb
  · simp at hb
  · simp at hb
  · cases e
end

end Go.Proofs.Ytlbnioapepelnaa.G

namespace Go.Proofs.Ytlbnioapepelnaa.G
open Go.RowKit

def Map.put (ρ : Map) (i n : Nat) (loc : Nat × Nat) : Map := fun j m => if j = i ∧ m = n then some loc else ρ j m

section
variable {P : Program} {Pt Pp : Nat → Prop} {w : World} {ρ : Map} {h : Heap} {a : Act} {o : Oper} {σ : GS} {C : Cfg} {call : GCall} {F : Nat → Prop} {N : Nat}

theorem put_same {i n : Nat} {loc : Nat × Nat} : (ρ.put i n loc) i n = some loc := by simp [Map.put]
theorem put_other {i n j m : Nat} {loc : Nat × Nat} (hne : ¬(j = i ∧ m = n)) : (ρ.put i n loc) j m = ρ j m := by simp [Map.put, hne]

theorem push_old {w w' : World} {ob : Obj} (hheap : w'.heap = w.heap.push ob) {c : Nat} (hc : c < w.heap.size) : w'.heap[c]? = w.heap[c]? := by
  rw [hheap, Array.getElem?_push, if_neg (by omega)]

theorem Step.place (p : Pre Pt w ρ Pp h F N) {i : Nat} {h' : Heap} {cs : List GV} {lg : Lg} {w' : World} {rc : Array Value} {ty : TypeId} {lo hi : Nat}
    (hcs : h'[i]? = some cs) (hoth : ∀ k, k ≠ i → h'[k]? = h[k]?)
    (hi' : (i = h.length ∧ h'.length = h.length + 1 ∧ lg.w = []) ∨ (i < h.length ∧ h'.length = h.length ∧ lg.w = [i]))
    (hnone : ∀ m, cs.length ≤ m → ρ i m = Option.none)
    (hos : w'.os = w.os) (htape : w'.tape = w.tape) (hout : w'.output = w.output) (hheap : w'.heap = w.heap.push (.cells rc ty (lo, hi)))
    (hrc : cs.length ≤ rc.size) (hfr : ∀ o, o < rc.size → ¬(lo ≤ o ∧ o < hi))
    (hv : ∀ (j : Nat) (g : GV), cs[j]? = some g → ∃ u, rc[j]? = some u ∧ VR w ρ Pp g Pt u) :
    Step Pt w ρ Pp h lg w' (ρ.put i cs.length (w.heap.size, 0)) Pp h' := by
  have hsz : w'.heap.size = w.heap.size + 1 := by rw [hheap]; simp
  have hnew : w'.heap[w.heap.size]? = some (.cells rc ty (lo, hi)) := by rw [hheap]; simp
  have hk : Keep w ρ Pp w' (ρ.put i cs.length (w.heap.size, 0)) Pp := by
    refine ⟨fun c R hc => ?_, fun j n loc hj => ?_, fun _ hc => hc⟩
    · have hlt : c < w.heap.size := by
        unfold rsz at hc
        split at hc
        · rename_i he; exact (Array.getElem?_eq_some_iff.1 he).1
        · cases hc
      unfold rsz at hc ⊢
      rw [push_old hheap hlt]
      exact hc
    · rw [put_other]
      · exact hj
      · rintro ⟨rfl, rfl⟩
        rw [hnone _ (Nat.le_refl _)] at hj
        cases hj
  have mem : ∀ k, (k ∈ lg.w ∨ h.length ≤ k ∧ k < h'.length) → k = i := by
    intro k hk
    rcases hi' with ⟨h1, h2, h3⟩ | ⟨h1, h2, h3⟩
    · rw [h3] at hk
      rcases hk with hk | hk
      · cases hk
      · omega
    · rw [h3] at hk
      rcases hk with hk | hk
      · simpa using hk
      · omega
  have notmem : ∀ k, k < h.length → k ∉ lg.w → k ≠ i := by
    intro k h1 h2 e
    subst e
    rcases hi' with ⟨h3, _⟩ | ⟨_, _, h3⟩
    · omega
    · exact h2 (by simp [h3])
  have atc : ∀ c, At (ρ.put i cs.length (w.heap.size, 0)) h' i c → c = w.heap.size := by
    rintro c ⟨cs', loc, h1, h2, rfl⟩
    rw [hcs] at h1
    cases h1
    rw [put_same] at h2
    cases h2
    rfl
  refine ⟨hos, htape, hout, by omega, hk, fun c hc _ => push_old hheap hc, fun c hc => .inl hc, fun k n hn => ?_, ?_, fun k h1 h2 => hoth k (notmem k h1 h2), fun k hk' => ?_, fun k c hk' ha => ?_, fun k j c h1 h2 hne => ?_⟩
  · refine put_other ?_
    rintro ⟨rfl, rfl⟩
    rcases hn with ⟨h1, h2⟩ | h1
    · exact notmem k h1 h2 rfl
    · rcases hi' with ⟨h3, h4, _⟩ | ⟨h3, h4, _⟩ <;> omega
  · rcases hi' with ⟨h3, h4, _⟩ | ⟨h3, h4, _⟩ <;> omega
  · have := mem k hk'
    subst this
    intro cs' hcs'
    rw [hcs] at hcs'
    cases hcs'
    refine ⟨⟨_, put_same, ⟨rc, ty, lo, hi, hnew, by simpa using hrc, hfr, fun j g hg => ?_⟩, fun hp => ?_, fun hp => ?_⟩, fun m hm => ?_⟩
    · obtain ⟨u, h1, h2⟩ := hv j g hg
      refine ⟨u, by simpa using h1, VR_mono hk g Pt Pt u (fun _ h => .inl h) (fun c hc => ?_) h2⟩
      exact push_old hheap (p.lt c hc)
    · have := p.lt _ (.inl hp)
      simp at this
    · have := p.lt _ (.inr hp)
      simp at this
    · rw [put_other (by rintro ⟨_, h2⟩; omega)]
      exact hnone m (by omega)
  · have := mem k hk'
    subst this
    rw [atc c ha]
    exact .inl ⟨Nat.le_refl _, by omega⟩
  · exact absurd ((mem k h1.symm).trans (mem j h2.symm).symm) hne

theorem Step.write (p : Pre Pt w ρ Pp h F N) {i c sh : Nat} {cs cs' : List GV} {r : List Nat} {w' : World} {rc rc' : Array Value} {ty : TypeId} {lo hi : Nat} (hF : F i)
    (hcs : h[i]? = some cs) (hρ : ρ i cs.length = some (c, sh)) (hlen : cs.length ≤ cs'.length)
    (hos : w'.os = w.os) (htape : w'.tape = w.tape) (hout : w'.output = w.output) (hsz : w'.heap.size = w.heap.size) (hold : w.heap[c]? = some (.cells rc ty (lo, hi)))
    (hat : w'.heap[c]? = some (.cells rc' ty (lo, hi))) (hoth : ∀ k, k ≠ c → w'.heap[k]? = w.heap[k]?)
    (hrc : rc'.size = rc.size) (hfit : sh + cs'.length ≤ rc.size)
    (hv : ∀ (j : Nat) (g : GV), cs'[j]? = some g → ∃ u, rc'[sh + j]? = some u ∧ VR w ρ Pp g Pt u) :
    Step Pt w ρ Pp h ⟨r, [i]⟩ w' (ρ.put i cs'.length (c, sh)) Pp (h.set i cs') := by
  have hilt : i < h.length := (List.getElem?_eq_some_iff.1 hcs).1
  obtain ⟨⟨loc, h1, ⟨rc0, ty0, lo0, hi0, h2, h3, h4, h5⟩, h6, h7⟩, h8⟩ := p.hb i hF cs hcs
  rw [hρ] at h1
  cases h1
  dsimp only at h2 h6 h7
  rw [hold] at h2
  cases h2
  have hk : Keep w ρ Pp w' (ρ.put i cs'.length (c, sh)) Pp := by
    refine ⟨fun k R hc => ?_, fun j n loc hj => ?_, fun _ hc => hc⟩
    · unfold rsz at hc ⊢
      by_cases hkc : k = c
      · subst hkc
        rw [hold] at hc
        rw [hat]
        simp only [Option.some.injEq] at hc ⊢
        omega
      · rw [hoth k hkc]
        exact hc
    · by_cases he : j = i ∧ n = cs'.length
      · obtain ⟨rfl, rfl⟩ := he
        rw [put_same]
        by_cases hl : cs'.length = cs.length
        · rw [hl, hρ] at hj
          exact hj
        · rw [h8 _ (by omega)] at hj
          cases hj
      · rw [put_other he]
        exact hj
  have stays : ∀ k, Pp k ∨ Pt k → w'.heap[k]? = w.heap[k]? := by
    intro k hpp
    refine hoth k fun e => ?_
    rw [e] at hpp
    rcases hpp with hpp | hpp
    · exact h6 hpp
    · exact h7 hpp
  have hset : (h.set i cs')[i]? = some cs' := by simp [hilt]
  have mem : ∀ k, (k ∈ [i] ∨ h.length ≤ k ∧ k < (h.set i cs').length) → k = i := by
    intro k hk
    rcases hk with hk | hk
    · simpa using hk
    · simp at hk; omega
  have atc : ∀ k, At (ρ.put i cs'.length (c, sh)) (h.set i cs') i k → k = c := by
    rintro k ⟨cs2, loc, e1, e2, rfl⟩
    rw [hset] at e1
    cases e1
    rw [put_same] at e2
    cases e2
    rfl
  refine ⟨hos, htape, hout, by omega, hk, fun k _ hk' => hoth k ?_, fun k hk' => .inl hk', fun k n hn => ?_, by simp, fun k _ e2 => ?_, fun k hk' => ?_, fun k k' hk' ha => ?_, fun k j k' e1 e2 hne => ?_⟩
  · rintro rfl
    exact hk' i (by simp) ⟨cs, _, hcs, hρ, rfl⟩
  · refine put_other ?_
    rintro ⟨rfl, rfl⟩
    rcases hn with ⟨_, e2⟩ | e1
    · exact e2 (by simp)
    · simp at e1; omega
  · rw [List.getElem?_set_ne (by rintro rfl; exact e2 (by simp))]
  · have := mem k hk'
    subst this
    intro cs2 hcs2
    rw [hset] at hcs2
    cases hcs2
    refine ⟨⟨_, put_same, ⟨rc', ty, lo, hi, hat, by simpa [hrc] using hfit, fun o ho => h4 o (by omega), fun j g hg => ?_⟩, h6, h7⟩, fun m hm => ?_⟩
    · obtain ⟨u, e1, e2⟩ := hv j g hg
      exact ⟨u, e1, VR_mono hk g Pt Pt u (fun _ h => .inl h) stays e2⟩
    · rw [put_other (by rintro ⟨_, h2⟩; omega)]
      exact h8 m (by omega)
  · have := mem k hk'
    subst this
    rw [atc k' ha]
    exact .inr ⟨cs, _, hcs, hρ, rfl⟩
  · exact absurd ((mem k e1.symm).trans (mem j e2.symm).symm) hne

theorem run_storeRow {c o : Nat} {ty : TypeId} {lo hi : Nat} : ∀ (vs : List Value) (i : Nat) (cur : Array Value) (w : World), w.heap[c]? = some (.cells cur ty (lo, hi)) → o + i + vs.length ≤ cur.size → (∀ v ∈ vs, v.oneCell' = true) →
    (∀ k, k < cur.size → ¬(lo ≤ k ∧ k < hi)) → (storeCells ⟨c, o, none⟩ vs i).run P w = .ok () (w.setRow c (cur.toList.take (o + i) ++ vs ++ cur.toList.drop (o + i + vs.length)).toArray)
  | [], i, cur, w, hg, _, _, _ => by
    simp only [storeCells, List.append_nil, List.length_nil, Nat.add_zero, List.take_append_drop, Array.toArray_toList, Sem.run_pure]
    congr 1
    exact (setRow_id hg).symm
  | v :: vs, i, cur, w, hg, hs, h1, hf => by
    have hs' : o + i + (vs.length + 1) ≤ cur.size := by simpa using hs
    have hcell : w.cell? ⟨c, o + i, none⟩ = some cur[o + i]! := by
      rw [cell_of_row w c _ cur ty (lo, hi) hg, Array.getElem?_eq_getElem (by omega)]
      simp [Array.getElem!_eq_getD, Array.getD, show o + i < cur.size by omega]
    have hfz : w.frozen? ⟨c, o + i, none⟩ = false := by
      have := hf (o + i) (by omega)
      simp only [World.frozen?, hg]
      simp
      omega
    have hst : (store ⟨c, o + i, none⟩ v).run P w = .ok () (w.setRow c (cur.setIfInBounds (o + i) v)) := by
      rw [run_store P w _ v .plain (h1 v (by simp)), hcell]
      simp only [hfz, Bool.false_eq_true, if_false]
      rw [setCell_eq_setRow w c (o + i) cur ty (lo, hi) v hg]
    have hg' := setRow_heap w c cur (cur.setIfInBounds (o + i) v) ty (lo, hi) hg
    have ih := run_storeRow (o := o) vs (i + 1) (cur.setIfInBounds (o + i) v) (w.setRow c (cur.setIfInBounds (o + i) v)) hg' (by simp; omega) (fun v hv => h1 v (by simp [hv])) (by simpa using hf)
    simp only [storeCells, addr_add, Sem.run_bind, hst, Result.andThen_ok, ih, setRow_setRow]
    congr 2
    have hl : o + i < cur.toList.length := by simp; omega
    try simp only [Array.toList_setIfInBounds]
    rw [set_at _ _ _ hl]
    have ht : (cur.toList.take (o + i)).length = o + i := by simp; omega
    congr 1
    rw [List.take_append, List.drop_append, ht]
    rw [List.take_of_length_le (by rw [ht]; omega : (cur.toList.take (o + i)).length ≤ o + (i + 1)), List.drop_of_length_le (by rw [ht]; omega : (cur.toList.take (o + i)).length ≤ o + (i + 1) + vs.length)]
    rw [show o + (i + 1) - (o + i) = 1 by omega, show o + (i + 1) + vs.length - (o + i) = vs.length + 1 by omega]
    simp [List.drop_drop, Nat.add_assoc, Nat.add_comm, Nat.add_left_comm]
where setRow_id {w : World} {c : Nat} {cur : Array Value} {ty : TypeId} {fr : Nat × Nat} (hg : w.heap[c]? = some (.cells cur ty fr)) : w.setRow c cur = w := by
        have hlt := (Array.getElem?_eq_some_iff.1 hg).1
        have hgg : w.heap[c] = .cells cur ty fr := (Array.getElem?_eq_some_iff.1 hg).2
        have : (w.setRow c cur).heap = w.heap := by
          apply Array.ext_getElem?
          intro k
          by_cases hk : k = c
          · subst hk
            rw [setRow_heap w k cur cur ty fr hg, hg]
          · exact setRow_other w c k cur hk
        show ({ w with heap := (w.setRow c cur).heap } : World) = w
        rw [this]

theorem cells_one {gs : List GV} {us : List Value} (h : VRs w ρ Pp gs Pt us) (hc : gs.all GV.isCell = true) : ∀ v ∈ us, v.oneCell' = true := by
  intro v hv
  obtain ⟨j, hj⟩ := List.mem_iff_getElem?.1 hv
  have hl := VRs_len h
  have hlt := (List.getElem?_eq_some_iff.1 hj).1
  obtain ⟨u, h1, h2⟩ := VRs_get h j (gs[j]'(by omega)) (by simp)
  rw [hj] at h1
  cases h1
  exact isCell_one h2 (List.all_eq_true.1 hc _ (List.getElem_mem _))
end

end Go.Proofs.Ytlbnioapepelnaa.G

namespace Go.Proofs.Ytlbnioapepelnaa.G
open Go.RowKit

section
variable {P : Program} {Pt Pp : Nat → Prop} {w : World} {ρ : Map} {h : Heap} {a : Act} {o : Oper} {σ : GS} {C : Cfg} {call : GCall} {F : Nat → Prop} {N : Nat}

theorem Step.fresh_block (p : Pre Pt w ρ Pp h F N) (hN : h.length < N) {cs : List GV} {w' : World} {rc : Array Value} {ty : TypeId} {lo hi : Nat} (r : List Nat)
    (hos : w'.os = w.os) (htape : w'.tape = w.tape) (hout : w'.output = w.output) (hheap : w'.heap = w.heap.push (.cells rc ty (lo, hi)))
    (hrc : cs.length ≤ rc.size) (hfr : ∀ o, o < rc.size → ¬(lo ≤ o ∧ o < hi)) {us : List Value} (hus : rc.toList.take cs.length = us) (hv : VRs w ρ Pp cs Pt us) :
    Step Pt w ρ Pp h ⟨r, []⟩ w' (ρ.put h.length cs.length (w.heap.size, 0)) Pp (h ++ [cs]) := by
  refine Step.place p (i := h.length) (by simp) (fun k hk => ?_) (.inl ⟨rfl, by simp, rfl⟩) (fun m _ => p.nw _ m (Nat.le_refl _) hN) hos htape hout hheap hrc hfr fun j g hg => ?_
  · by_cases hlt : k < h.length
    · rw [List.getElem?_append_left hlt]
    · rw [List.getElem?_eq_none (by simp; omega), List.getElem?_eq_none (by omega)]
  · obtain ⟨u, h1, h2⟩ := VRs_get hv j g hg
    refine ⟨u, ?_, h2⟩
    rw [← hus, List.getElem?_take] at h1
    split at h1
    · simpa using h1
    · cases h1

theorem op_alloc {t : TypeId} {v : GV} {h' : Heap} {lg : Lg} (ho : o.op = .alloc t) (e : gop P C call (eval σ) o h = some (v, h', lg)) (p : Pre Pt w ρ Pp h F h'.length) :
    OpTo P o a w (After Pt w ρ Pp h lg h' v) := by
  simp only [gop, ho, Option.bind_eq_bind, obsi, Option.some.injEq, Prod.mk.injEq] at e
  obtain ⟨z, hz, rfl, rfl, rfl⟩ := e
  obtain ⟨zv, h1, h2⟩ := gzero_run hz
  have hl := VRs_len (h2 w ρ Pp Pt)
  simp only [Array.length_toList] at hl
  refine .value (u := .pointer (some ⟨w.heap.size, 0, none⟩)) (w' := w.alloc (.cells zv.cells t)) ?_ ⟨_, Pp, ⟨w.heap.size, 0, put_same, rfl⟩, Step.fresh_block p (by simp) [] rfl rfl rfl rfl (by omega) (fun o _ => by omega) rfl ?_⟩
  · simp only [execOp, ho, Instr.alloc, Sem.run_bind, h1, Result.andThen_ok, newVar, newRow, run_newObj, Sem.run_pure]
    rfl
  · rw [← hl, List.take_of_length_le (by simp)]
    exact h2 ..

theorem op_box {t : TypeId} {x : Operand} {v : GV} {h' : Heap} {lg : Lg} (ho : o.op = .box t x) (hx : EV w ρ Pp Pt σ a x) (e : gop P C call (eval σ) o h = some (v, h', lg)) (p : Pre Pt w ρ Pp h F h'.length) :
    OpTo P o a w (After Pt w ρ Pp h lg h' v) := by
  simp only [gop, ho, Option.bind_eq_bind, obsi, Option.some.injEq, Prod.mk.injEq] at e
  obtain ⟨g, hg, rfl, rfl, rfl⟩ := e
  have h2 := VR_cells (hx _ hg)
  have hl := VRs_len h2
  simp only [Array.length_toList] at hl
  refine .value (u := .pointer (some ⟨w.heap.size, 0, none⟩)) (w' := w.alloc (.cells (a.eval x).cells t)) ?_ ⟨_, Pp, ⟨w.heap.size, 0, put_same, rfl⟩, Step.fresh_block p (by simp) [] rfl rfl rfl rfl (by omega) (fun o _ => by omega) rfl ?_⟩
  · simp only [execOp, ho, Instr.box, Sem.run_bind, Result.andThen_ok, newVar, newRow, run_newObj, Sem.run_pure]
    rfl
  · rw [← hl, List.take_of_length_le (by simp)]
    exact h2

theorem zeros_len (z : List GV) : ∀ n, (zeros z n).length = n * z.length
  | 0 => by simp [zeros]
  | n + 1 => by simp [zeros, zeros_len z n, Nat.add_mul]; omega

theorem zeros_get (z : List GV) : ∀ (n j : Nat), j < n * z.length → (zeros z n)[j]? = z[j % z.length]?
  | 0, j, hj => by simp at hj
  | n + 1, j, hj => by
    by_cases h1 : j < z.length
    · rw [zeros, List.getElem?_append_left h1, Nat.mod_eq_of_lt h1]
    · rw [zeros, List.getElem?_append_right (by omega), zeros_get z n (j - z.length) (by rw [Nat.add_mul] at hj; omega)]
      congr 1
      rw [Nat.mod_eq_sub_mod (by omega : j ≥ z.length)]

theorem VRs_zeros {z : List GV} {zv : Array Value} {n : Nat} (hz : VRs w ρ Pp z Pt zv.toList) : VRs w ρ Pp (zeros z n) Pt ((Array.range (n * z.length)).map (zv[· % zv.size]!)).toList := by
  have hl := VRs_len hz
  simp only [Array.length_toList] at hl
  refine VRs_of (by simp [zeros_len]) fun j g u e1 e2 => ?_
  have hj : j < n * z.length := by
    have := (List.getElem?_eq_some_iff.1 e1).1
    rwa [zeros_len] at this
  have hpos : 0 < z.length := by
    rcases Nat.eq_zero_or_pos z.length with h0 | h0
    · rw [h0] at hj; simp at hj
    · exact h0
  rw [zeros_get z n j hj] at e1
  obtain ⟨u', h1, h2⟩ := VRs_get hz _ g e1
  simp [hj] at e2
  have hlt : j % z.length < zv.size := by rw [hl]; exact Nat.mod_lt _ hpos
  rw [hl] at e2
  have h3 : zv[j % z.length]? = some u' := by simpa using h1
  rw [Array.getElem?_eq_getElem hlt] at h3
  simp only [Option.some.injEq] at h3
  have h4 : zv[j % z.length]! = u' := by
    rw [← h3]
    exact getElem!_pos zv _ hlt
  rw [h4] at e2
  rw [← e2]
  exact h2

theorem range_zero {n : Nat} (f g : Nat → Value) (hn : n = 0) : (Array.range n).map f = (Array.range n).map g := by subst hn; simp
theorem rsz_alloc (w : World) (rc : Array Value) (ty : TypeId) (fr : Nat × Nat) : rsz (w.alloc (.cells rc ty fr)) w.heap.size = some rc.size := by
  unfold rsz
  rw [heap_alloc_new]

theorem op_makeSlice {t : TypeId} {x y : Operand} {v : GV} {h' : Heap} {lg : Lg} (ho : o.op = .makeSlice t x y) (hx : EV w ρ Pp Pt σ a x) (hy : EV w ρ Pp Pt σ a y) (e : gop P C call (eval σ) o h = some (v, h', lg)) (p : Pre Pt w ρ Pp h F h'.length) :
    OpTo P o a w (After Pt w ρ Pp h lg h' v) := by
  simp only [gop, ho, Option.bind_eq_bind, obsi] at e
  obtain ⟨d, hu, e⟩ := e
  split at e
  · rename_i et
    simp only [obsi] at e
    obtain ⟨info, hi, z, hz, g1, hg1, e⟩ := e
    split at e
    · rename_i k1 len
      simp only [obsi] at e
      obtain ⟨g2, hg2, e⟩ := e
      split at e
      · rename_i k2 cap
        split at e
        · rename_i hc
          obtain ⟨c0, c1, c2, c3, c4⟩ := hc
          simp only [Option.some.injEq, Prod.mk.injEq] at e
          obtain ⟨rfl, rfl, rfl⟩ := e
          obtain ⟨zv, h1, h2⟩ := gzero_run hz
          have hvx := hx _ hg1
          have hvy := hy _ hg2
          simp only [VR, VRi] at hvx hvy
          have hzl := VRs_len (h2 w ρ Pp Pt)
          simp only [Array.length_toList] at hzl
          have wl : IntKind.i64.wrap len = len := wrap_small (by omega) (by omega)
          have wc : IntKind.i64.wrap cap = cap := wrap_small (by omega) (by omega)
          have hbig : ¬ (info.bytes * cap > 2 ^ 48) := by
            have e1 : ((cap.toNat * info.bytes : Nat) : Int) = info.bytes * cap := by
              rw [Nat.mul_comm]; push_cast; congr 1; omega
            rw [← e1]
            simp only [roomMax] at c3
            omega
          refine .value (u := .slice (some ⟨w.heap.size, 0, none⟩) len.toNat cap.toNat) (w' := w.alloc (.cells ((Array.range (cap.toNat * info.size)).map (zv.cells[· % zv.cells.size]!)) et)) ?_ ⟨ρ.put h.length (zeros z cap.toNat).length (w.heap.size, 0), Pp, ?_, Step.fresh_block p (by simp) [] rfl rfl rfl rfl (by simp [zeros_len, c4]) (fun o _ => by omega) rfl ?_⟩
          · simp only [execOp, ho, Instr.makeSlice, hvx, hvy, Sem.run_bind, run_underlying hu, Result.andThen_ok, asInt, asIntOf, Sem.run_pure, run_typeInfo hi, wl, wc]
            have n1 : ¬ (cap < 0) := by omega
            have n2 : ¬ (len < 0) := by omega
            have n3 : ¬ (len > cap) := by omega
            simp only [n1, n2, n3, hbig, decide_false, Bool.or_false, Bool.false_eq_true, if_false]
            simp only [Sem.run_bind, run_askRoom, Result.andThen_ok, sizeOf, run_typeInfo hi, Sem.run_pure]
            by_cases hn0 : cap.toNat * info.size = 0
            · rw [if_pos hn0]
              simp only [Sem.run_bind, Sem.run_pure, Result.andThen_ok, newRow, run_newObj]
              rw [range_zero _ (fun x => zv.cells[x % zv.cells.size]!) hn0]
              rfl
            · rw [if_neg hn0]
              simp only [Sem.run_bind, Sem.run_pure, Result.andThen_ok, h1, newRow, run_newObj]
              rfl
          · refine ⟨w.heap.size, 0, ⟨w.heap.size, 0, none⟩, cap.toNat, ?_, rfl, by omega, Nat.le_refl _, .inr ⟨rfl, cap.toNat * info.size, ?_, by omega⟩⟩
            · rw [Nat.zero_add, ← c4, ← zeros_len]
              exact put_same
            · rw [rsz_alloc]; simp
          · rw [List.take_of_length_le (by simp [zeros_len, c4]), ← c4]
            exact VRs_zeros (h2 ..)
        · cases e
      · cases e
    · cases e
  · cases e
where wrap_small {n : Int} (h0 : 0 ≤ n) (h1 : n ≤ maxLen) : IntKind.i64.wrap n = n := by
        simp only [maxLen] at h1
        simp [IntKind.wrap, IntKind.bits, IntKind.signed, Int.bmod]
        omega

theorem Step.idle (Pt : Nat → Prop) (w : World) (ρ : Map) (Pp : Nat → Prop) (h : Heap) (ob : Obj) : Step Pt w ρ Pp h .nil (w.alloc ob) ρ Pp h := by
  have hold : ∀ c, c < w.heap.size → (w.alloc ob).heap[c]? = w.heap[c]? := fun c hc => by
    show (w.heap.push ob)[c]? = _
    simp [Array.getElem?_push, Nat.ne_of_lt hc]
  refine ⟨rfl, rfl, rfl, (show w.heap.size ≤ (w.heap.push ob).size by simp), ⟨fun c R hc => ?_, fun _ _ _ h => h, fun _ h => h⟩, fun c hc _ => hold c hc, fun _ h => .inl h, fun _ _ _ => rfl, Nat.le_refl _, fun _ _ _ => rfl, fun i hi => ?_, fun i c hi => ?_, fun i j c hi => ?_⟩
  · have hlt : c < w.heap.size := by
      unfold rsz at hc
      split at hc
      · rename_i he; exact (Array.getElem?_eq_some_iff.1 he).1
      · cases hc
    unfold rsz at hc ⊢
    rw [hold c hlt]
    exact hc
  · rcases hi with hi | hi
    · exact absurd hi (by simp [Lg.nil])
    · omega
  · rcases hi with hi | hi
    · exact absurd hi (by simp [Lg.nil])
    · omega
  · rcases hi with hi | hi
    · omega
    · exact absurd hi (by simp [Lg.nil])

theorem op_buildSlice {t : TypeId} {len : Nat} {parts : Array (Nat × Operand)} {v : GV} {h' : Heap} {lg : Lg} (ho : o.op = .buildSlice t len parts) (hx : ∀ p, p ∈ parts.toList → EV w ρ Pp Pt σ a p.2) (e : gop P C call (eval σ) o h = some (v, h', lg)) (p : Pre Pt w ρ Pp h F h'.length) :
    OpTo P o a w (After Pt w ρ Pp h lg h' v) := by
  simp only [gop, ho, Option.bind_eq_bind, obsi] at e
  obtain ⟨d, hu, e⟩ := e
  split at e
  · rename_i et
    simp only [obsi] at e
    obtain ⟨n, hn, z, hz, ps, hp, e⟩ := e
    split at e
    · rename_i hc
      simp only [obsi] at e
      obtain ⟨cs, hf, e⟩ := e
      obtain ⟨zv, h1, h2⟩ := gzero_run hz
      obtain ⟨h3, h4⟩ := gparts_of hp hx
      have hz0 := VRs_zeros (n := len) (h2 w ρ Pp Pt)
      obtain ⟨vs, h5, h6⟩ := fill_run (w := w) (ρ := ρ) (Pp := Pp) (Pt := Pt) _ ps _ (zeros z len) _ cs hf hz0 h3 h4
      have hl := VRs_len h6
      simp only [Array.length_toList] at hl
      have hcl : cs.length = len * n := by
        rw [fill_len hf, zeros_len, hc.2]
      have hrun : (execOp a.eval o).run P w = .ok (.value (.slice (some ⟨w.heap.size, 0, none⟩) len len)) (w.alloc (.cells vs et)) := by
        have hb : ¬ (len * n > 2 ^ 24) := by omega
        rw [hc.2] at h5
        simp only [execOp, ho, Instr.buildSlice, Sem.run_bind, run_underlying hu, Result.andThen_ok, run_sizeOf hn]
        rw [if_neg hb]
        by_cases hn0 : len * n = 0
        · rw [if_pos hn0]
          simp only [Sem.run_bind, Sem.run_pure, Result.andThen_ok]
          rw [range_zero _ (fun x => zv.cells[x % zv.cells.size]!) hn0, h5]
          simp only [Sem.run_bind, Sem.run_pure, Result.andThen_ok, newRow, run_newObj]
          rfl
        · rw [if_neg hn0]
          simp only [Sem.run_bind, Sem.run_pure, Result.andThen_ok, h1]
          rw [h5]
          simp only [Sem.run_bind, Sem.run_pure, Result.andThen_ok, newRow, run_newObj]
          rfl
      cases len with
      | zero =>
        simp only [Option.some.injEq, Prod.mk.injEq] at e
        obtain ⟨rfl, rfl, rfl⟩ := e
        exact .value hrun ⟨ρ, Pp, .inr ⟨_, rfl⟩, Step.idle Pt w ρ Pp h _⟩
      | succ len =>
      simp only [Option.some.injEq, Prod.mk.injEq] at e
      obtain ⟨rfl, rfl, rfl⟩ := e
      generalize hlen : len + 1 = len at *
      refine .value hrun ⟨ρ.put h.length cs.length (w.heap.size, 0), Pp, ?_, Step.fresh_block p (by simp) [] rfl rfl rfl rfl (by omega) (fun o _ => by omega) rfl ?_⟩
      · refine ⟨w.heap.size, 0, ⟨w.heap.size, 0, none⟩, len, ?_, rfl, by omega, Nat.le_refl _, .inr ⟨rfl, len * n, ?_, by omega⟩⟩
        · rw [Nat.zero_add, ← hcl]
          exact put_same
        · rw [rsz_alloc]; congr 1; omega
      · rw [← hl, List.take_of_length_le (by simp)]
        exact h6
    · cases e
  · cases e
where fill_len {place : Nat → Option (Nat × Nat)} : ∀ {ps : List (Nat × GV)} {cells cs : List GV}, gfill place cells ps = some cs → cs.length = cells.length
        | [], cells, cs, e => by simp [gfill] at e; rw [e]
        | (i, v) :: ps, cells, cs, e => by
          unfold gfill at e
          split at e
          · cases e
          · split at e
            · rename_i hs
              rw [fill_len e, splice_len hs.2]
            · cases e
end

end Go.Proofs.Ytlbnioapepelnaa.G

namespace Go.Proofs.Ytlbnioapepelnaa.G
open Go.RowKit

section
variable {P : Program} {Pt Pp : Nat → Prop} {w : World} {ρ : Map} {h : Heap} {a : Act} {o : Oper} {σ : GS} {C : Cfg} {call : GCall} {F : Nat → Prop} {N : Nat}

theorem store_step (p : Pre Pt w ρ Pp h F N) {i off tot c sh : Nat} {cs vs : List GV} {us : List Value} (r : List Nat) (hF : F i) (hcs : cellsAt h i tot = some cs) (hρ : ρ i tot = some (c, sh))
    (hfit : off + vs.length ≤ cs.length) (hv : VRs w ρ Pp vs Pt us) (hc : vs.all GV.isCell = true) :
    ∃ w', (storeCells ⟨c, sh + off, none⟩ us).run P w = .ok () w' ∧ Step Pt w ρ Pp h ⟨r, [i]⟩ w' (ρ.put i cs.length (c, sh)) Pp (h.set i (splice cs off vs)) := by
  obtain ⟨h1, h2⟩ := cellsAt_eq hcs
  have hb := p.hb i hF
  obtain ⟨⟨rc, ty, lo, hi, h3, h4, h5, h6⟩, h7, h8⟩ := cells_at hcs hb hρ
  dsimp only at h3 h4 h6
  have hl := VRs_len hv
  have hst := run_storeRow (P := P) (c := c) (o := sh + off) us 0 rc w h3 (by omega) (cells_one hv hc) h5
  refine ⟨_, hst, ?_⟩
  simp only [Nat.add_zero]
  have hlen : (splice cs off vs).length = cs.length := splice_len hfit
  have htk : (rc.toList.take (sh + off)).length = sh + off := by simp; omega
  rw [← hlen]
  refine Step.write p hF h1 (by rw [h2]; exact hρ) (by omega) rfl rfl rfl (by simp) h3 (setRow_heap w c rc _ ty (lo, hi) h3) (fun k hk => setRow_other w c k _ hk) ?_ (by omega) fun j g hg => ?_
  · simp; omega
  · have hj : j < cs.length := by
      have := (List.getElem?_eq_some_iff.1 hg).1
      omega
    unfold splice at hg
    by_cases hj1 : j < off
    · rw [List.append_assoc, List.getElem?_append_left (by simp; omega), List.getElem?_take, if_pos hj1] at hg
      obtain ⟨u, q1, q2⟩ := h6 j g hg
      refine ⟨u, ?_, q2⟩
      simp only [List.getElem?_toArray]
      rw [List.append_assoc, List.getElem?_append_left (by omega), List.getElem?_take, if_pos (by omega)]
      simpa using q1
    · by_cases hj2 : j < off + vs.length
      · rw [List.append_assoc, List.getElem?_append_right (by simp; omega), List.length_take, Nat.min_eq_left (by omega), List.getElem?_append_left (by omega)] at hg
        obtain ⟨u, q1, q2⟩ := VRs_get hv _ g hg
        refine ⟨u, ?_, q2⟩
        simp only [List.getElem?_toArray]
        rw [List.append_assoc, List.getElem?_append_right (by omega), htk, List.getElem?_append_left (by omega), ← q1]
        congr 1
        omega
      · rw [List.append_assoc, List.getElem?_append_right (by simp; omega), List.length_take, Nat.min_eq_left (by omega), List.getElem?_append_right (by omega), List.getElem?_drop] at hg
        obtain ⟨u, q1, q2⟩ := h6 _ g hg
        refine ⟨u, ?_, q2⟩
        simp only [List.getElem?_toArray]
        rw [List.append_assoc, List.getElem?_append_right (by omega), htk, List.getElem?_append_right (by omega), List.getElem?_drop]
        rw [Array.getElem?_toList, ← q1]
        congr 1
        omega

theorem op_store {t : TypeId} {x y : Operand} {v : GV} {h' : Heap} {lg : Lg} (ho : o.op = .store t x y) (hx : EV w ρ Pp Pt σ a x) (hy : EV w ρ Pp Pt σ a y) (e : gop P C call (eval σ) o h = some (v, h', lg)) (p : Pre Pt w ρ Pp h F N) (hF : ∀ i, i ∈ lg.w → F i) :
    OpTo P o a w (After Pt w ρ Pp h lg h' v) := by
  simp only [gop, ho, Option.bind_eq_bind, obsi, Option.some.injEq, Prod.mk.injEq] at e
  obtain ⟨g, hg, g', hg', ⟨h2, i⟩, hs, rfl, rfl, rfl⟩ := e
  have hu := hx _ hg
  have hv := hy _ hg'
  unfold gstore at hs
  simp only [Option.bind_eq_bind, obsi] at hs
  obtain ⟨n, hn, hs⟩ := hs
  split at hs
  · rename_i hc
    split at hs
    · rename_i b off tot
      simp only [obsi] at hs
      obtain ⟨cs, hcs, hs⟩ := hs
      split at hs
      · rename_i hfit
        simp only [Option.some.injEq, Prod.mk.injEq] at hs
        obtain ⟨rfl, rfl⟩ := hs
        obtain ⟨c, sh, h5, h6⟩ := hu
        obtain ⟨w', q1, q2⟩ := store_step (P := P) p (off := off) [] (hF b (by simp)) hcs h5 (by omega) (VR_cells hv) hc.2
        have hl := VRs_len (VR_cells hv)
        simp only [Array.length_toList] at hl
        refine .skip (w' := w') ?_ ⟨_, Pp, by simp [VR, VRi], q2⟩
        simp only [execOp, ho, Instr.storeAt, h6, Instr.sureAddr, storeVar, Sem.run_bind, Sem.run_pure, Result.andThen_ok, run_sizeOf hn]
        rw [if_neg (by omega)]
        rw [q1]
        rfl
      · cases hs
    · cases hs
  · cases hs

theorem gbytes_VRs (bs : List UInt8) : VRs w ρ Pp (bs.map fun b => GV.int .u8 b.toNat) Pt (bs.map fun b => Value.int .u8 b.toNat) := by
  induction bs with
  | nil => simp [VRs, VRsi]
  | cons b bs ih => exact ⟨_, _, rfl, rfl, ih⟩

theorem firstCells_run {es n m : Nat} {v : GV} {cs : List GV} {r : List Nat} {u : Value} (e : gcells h es v = some (n, cs, r)) (hv : VR w ρ Pp v Pt u) (hb : ∀ i, i ∈ r → HB w ρ Pp Pt h i) (hm : m ≤ n) :
    (Builtin.lenOf u).run P w = .ok n w ∧ ∃ us : List Value, (Builtin.firstCells es m u).run P w = .ok us.toArray w ∧ VRs w ρ Pp (cs.take (m * es)) Pt us := by
  rcases gcells_run e hv hb with ⟨rfl, rfl, rfl, _⟩ | ⟨A, cap', us, rfl, h1, h2, h3, h4⟩ | ⟨s, rfl, _, rfl, rfl, rfl⟩
  · exact ⟨rfl, [], rfl, by simp [VRs, VRsi]⟩
  · refine ⟨rfl, us.take (m * es), ?_, VRs_take _ h2⟩
    have hl := VRs_len h2
    have hmul : m * es ≤ n * es := Nat.mul_le_mul_right _ hm
    have := run_loadCells_list (P := P) w A (us.take (m * es)) (fun j u hj => by
      rw [List.getElem?_take] at hj
      split at hj
      · exact h4 j u hj
      · cases hj)
    rw [List.length_take, Nat.min_eq_left (by omega)] at this
    exact this
  · refine ⟨rfl, ((s.extract 0 m).data.map fun b => Value.int .u8 b.toNat).toList, ?_, ?_⟩
    · rw [Array.toArray_toList]; rfl
    · have : ((s.extract 0 m).data.map fun b => Value.int .u8 b.toNat).toList = (s.toList.take m).map fun b => Value.int .u8 b.toNat := by
        rw [Array.toList_map, ByteArray.toList_eq]
        congr 1
        simp [ByteArray.data_extract, Array.toList_extract, List.extract_eq_take_drop]
      rw [this, Nat.mul_one, ← List.map_take]
      exact gbytes_VRs _

theorem step_self (p : Pre Pt w ρ Pp h F N) {i : Nat} {cs : List GV} {c sh : Nat} (hF : F i) (hcs : h[i]? = some cs) (hρ : ρ i cs.length = some (c, sh)) (r : List Nat) : Step Pt w ρ Pp h ⟨r, [i]⟩ w ρ Pp h := by
  obtain ⟨⟨loc, h1, ⟨rc, ty, lo, hi, h3, h4, h5, h6⟩, h7, h8⟩, h9⟩ := p.hb i hF cs hcs
  rw [hρ] at h1
  cases h1
  have := Step.write p (r := r) hF hcs hρ (Nat.le_refl _) rfl rfl rfl rfl h3 h3 (fun _ _ => rfl) rfl h4 h6
  have e1 : h.set i cs = h := by
    apply List.ext_getElem?
    intro k
    by_cases hk : k = i
    · subst hk
      rw [hcs, List.getElem?_set]
      simp [(List.getElem?_eq_some_iff.1 hcs).1]
    · rw [List.getElem?_set_ne (Ne.symm hk)]
  have e2 : ρ.put i cs.length (c, sh) = ρ := by
    funext j m
    unfold Map.put
    split
    · rename_i hj
      rw [hj.1, hj.2, hρ]
    · rfl
  rw [e1, e2] at this
  exact this

theorem freeze_push (w : World) (rc : Array Value) (ty : TypeId) (n : Nat) :
    ({ w with heap := w.heap.push (.cells rc ty) } : World).freeze ⟨w.heap.size, n, none⟩ 1 = { w with heap := w.heap.push (.cells rc ty (n, n + 1)) } := by
  unfold World.freeze
  rw [if_neg (by omega)]
  congr 1
  apply Array.ext_getElem?
  intro k
  simp only [Array.getElem?_modify, Array.getElem?_push]
  by_cases hk : k = w.heap.size
  · subst hk; simp
  · rw [if_neg (Ne.symm hk), if_neg hk, if_neg hk]

theorem op_convert {s d : TypeId} {x : Operand} {v : GV} {h' : Heap} {lg : Lg} (ho : o.op = .convert s d x) (hx : EV w ρ Pp Pt σ a x) (e : gop P C call (eval σ) o h = some (v, h', lg)) (p : Pre Pt w ρ Pp h F h'.length) (hF : ∀ i, i ∈ lg.r → F i) :
    OpTo P o a w (After Pt w ρ Pp h lg h' v) := by
  simp only [gop, ho, Option.bind_eq_bind, obsi] at e
  obtain ⟨g, hg, e⟩ := e
  have hu := hx _ hg
  unfold gconvert at e
  split at e
  · rename_i hs hd
    simp only [Option.some.injEq, Prod.mk.injEq] at e
    obtain ⟨rfl, rfl, rfl⟩ := e
    simp only [VR, VRi] at hu
    refine .same (u := .int _ _) ?_ rfl
    simp [execOp, ho, hu, convert, run_underlying hs, run_underlying hd, Conv.intToInt]
  · rename_i hs hd
    simp only [Option.some.injEq, Prod.mk.injEq] at e
    obtain ⟨rfl, rfl, rfl⟩ := e
    simp only [VR, VRi] at hu
    refine .same (u := .string _) ?_ rfl
    simp [execOp, ho, hu, convert, run_underlying hs, run_underlying hd]
  · rename_i et b hs hd
    split at e
    · rename_i he
      simp only [Option.some.injEq, Prod.mk.injEq] at e
      obtain ⟨rfl, rfl, rfl⟩ := e
      simp only [VR, VRi] at hu
      -- the room drawn
      let q : Question := .appendCap b.size 0 et
      let cap := q.cut (w.tape w.drawn q)
      have hcap : b.size ≤ cap := Nat.le_add_right _ _
      let rc : Array Value := (b.data.map fun b => Value.int .u8 b.toNat) ++ Array.replicate (cap - b.size) (.int .u8 0)
      have hrc : rc.size = cap := by
        simp only [rc, Array.size_append, Array.size_map, Array.size_replicate]
        show b.size + (cap - b.size) = cap
        omega
      let w1 : World := { w.drew with heap := w.heap.push (.cells rc et (cap, cap + 1)) }
      refine .value (u := .slice (some ⟨w.heap.size, 0, none⟩) b.size cap) (w' := w1) ?_ ⟨ρ.put h.length (b.toList.map fun c => GV.int .u8 c.toNat).length (w.heap.size, 0), Pp, ?_, Step.fresh_block p (by simp) [] (lo := cap) (hi := cap + 1) (rc := rc) (ty := et) rfl rfl rfl rfl ?_ ?_ (us := b.toList.map fun c => Value.int .u8 c.toNat) ?_ (gbytes_VRs _)⟩
      · have hcv : (convert s d (.string b)).run P w = (Conv.stringToBytes et b).run P w := by
          simp only [convert, Sem.run_bind, run_underlying hs, run_underlying hd, Result.andThen_ok, run_underlying he]
        have hst : (Conv.stringToBytes et b).run P w = .ok (.slice (some ⟨w.heap.size, 0, none⟩) b.size cap) w1 := by
          have hq : (choose q).run P w = .ok cap w.drew := by
            rw [run_choose]
            rfl
          have hfr := freeze_push w.drew rc et rc.size
          have hsh : ({ w.drew with heap := w.drew.heap.push (.cells rc et) } : World).shape? w.heap.size = some (et, rc.size) := by
            simp [World.shape?, heap_drew]
          simp only [Conv.stringToBytes, Sem.run_bind]
          rw [hq]
          simp only [Result.andThen_ok, Sem.run_bind, newRow, run_newObj, Sem.run_pure, markStringish, run_shape, heap_drew]
          simp only [heap_drew] at hsh hfr
          rw [hsh]
          simp only [run_freeze, Result.andThen_ok]
          rw [hfr, hrc]
        simp only [execOp, ho, hu, Sem.run_bind, hcv, hst, Result.andThen_ok, Sem.run_pure]
      · refine ⟨w.heap.size, 0, ⟨w.heap.size, 0, none⟩, cap, ?_, rfl, Nat.le_refl _, hcap, .inr ⟨rfl, cap, ?_, by omega⟩⟩
        · rw [show 0 + b.size * 1 = (b.toList.map fun c => GV.int .u8 c.toNat).length by rw [List.length_map, ByteArray.toList_eq]; simp]
          exact put_same
        · simp [rsz, w1, hrc]
      · rw [List.length_map, ByteArray.toList_eq, hrc]
        exact hcap
      · intro o ho
        omega
      · rw [List.length_map, ByteArray.toList_eq]
        simp only [rc, Array.toList_append, Array.toList_map]
        rw [List.take_append_of_le_length (by simp)]
        rw [List.take_of_length_le (by simp)]
    · cases e
  · rename_i et hs hd _
    split at e
    · rename_i he
      split at e
      · cases e
      · cases e
      · simp only [Option.bind_eq_bind, obsi] at e
        obtain ⟨⟨n, cs, r⟩, hc, ns, hns, e⟩ := e
        split at e
        · rename_i hnl
          simp only [Option.some.injEq, Prod.mk.injEq] at e
          obtain ⟨rfl, rfl, rfl⟩ := e
          rcases gcells_run hc hu (fun i hi => p.hb i (hF i hi)) with ⟨q1, rfl, rfl, _⟩ | ⟨A, cap', us, q1, q2, q3, q4, q5⟩ | ⟨s', q1, rfl, _⟩
          · simp at hns
            subst hns
            refine .same (u := .string ByteArray.empty) ?_ rfl
            simp [execOp, ho, q1, convert, run_underlying hs, run_underlying hd, run_underlying he, Conv.bytesToString]
          · have hui := VRs_ints (k := .u8) q3 hns
            subst hui
            have hl := run_loadCells_list (P := P) w A _ q5
            rw [List.length_map, hnl] at hl
            have := run_bytesToString w A n cap' ns hl
            refine .same (u := .string ⟨(ns.map fun n : Int => UInt8.ofNat n.toNat).toArray⟩) ?_ (by simp [VR, VRi])
            rw [foldl_push_bytes] at this
            simp only [execOp, ho, q1, Sem.run_bind]
            rw [run_convert_bytes_string w s d et _ n cap' hs he hd, this]
            have : (ByteArray.empty.data ++ (ns.map fun n : Int => UInt8.ofNat n.toNat).toArray) = (ns.map fun n : Int => UInt8.ofNat n.toNat).toArray := by
              show (#[] ++ _) = _
              simp
            rw [this]
            rfl
          · simp_all
        · cases e
    · cases e
  · cases e
end

end Go.Proofs.Ytlbnioapepelnaa.G
