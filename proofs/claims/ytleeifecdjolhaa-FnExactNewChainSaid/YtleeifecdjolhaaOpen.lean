/- How an argument that can be read as data (a number, a bool, a text, a struct, a slice, nested in one another) is taken apart for the walk: for each kind of value one lemma; no condition. -/
import Derived.Test.YtleeifecdjolhaaWWords
import Derived.Test.YtleeifecdjolhaaWMore
import Derived.Deep.Slices
import Derived.ChangeOld
import Derived.ChangeArms
import Derived.Carry
import Derived.ShutString
import Derived.ProofKit
namespace Go.Proofs.Ytleeifecdjolhaa.Open
open Go.RowKit Go.Proofs.YtleeifecdjolhaaW.PrintWords Go.ChangeShapes Go.WideShapes Go.Deep
set_option linter.unusedVariables false

/-- A value of type t that can be read is told by the kind d, and I holds of it. -/
structure Opens {α : Type} (P : Program) (t : TypeId) (d : Kd α) (I : α → Prop) : Prop where
  sz : P.cellsOf t = d.sz
  op : ∀ {H : Type} (enc : TypeId × Value → H) (w : World) (fuel : Nat) (cs : List Value) (x : DataW H × List MemPlace),
    DataW.trod enc P w 0 (fun _ => true) true fuel t cs = some x → ∃ a : α, d.K w a cs ∧ I a

theorem Opens.imp {α : Type} {P : Program} {t : TypeId} {d : Kd α} {I J : α → Prop} (h : Opens P t d I) (hj : ∀ a, I a → J a) : Opens P t d J :=
  ⟨h.sz, fun enc w fuel cs x hx => by obtain ⟨a, h1, h2⟩ := h.op enc w fuel cs x hx; exact ⟨a, h1, hj a h2⟩⟩

theorem opens_int {P : Program} {t : TypeId} {k : IntKind} (ht : P.underlying t = some (.int k)) (hs : P.cellsOf t = 1) : Opens P t (Kd.int k) (fun n => (Lit.int k n).wf = true) :=
  ⟨hs, fun enc w fuel cs x hx => by
    obtain ⟨n, rfl, _, hw⟩ := DataW.trod_int ht hx
    exact ⟨n, rfl, hw⟩⟩

theorem opens_bool {P : Program} {t : TypeId} (ht : P.underlying t = some .bool) (hs : P.cellsOf t = 1) : Opens P t Kd.bool (fun _ => True) :=
  ⟨hs, fun enc w fuel cs x hx => by
    obtain ⟨n, rfl, _⟩ := DataW.trod_bool ht hx
    exact ⟨n, rfl, trivial⟩⟩

theorem opens_string {P : Program} {t : TypeId} (ht : P.underlying t = some .string) (hs : P.cellsOf t = 1) : Opens P t Kd.string (fun s => s.size ≤ maxLen) :=
  ⟨hs, fun enc w fuel cs x hx => by
    obtain ⟨n, rfl, _, hw⟩ := DataW.trod_string ht hx
    exact ⟨n, rfl, hw⟩⟩

theorem list_of {α : Type} {Q : Nat → α → Prop} : ∀ n : Nat, (∀ i, i < n → ∃ y, Q i y) → ∃ xs : List α, xs.length = n ∧ ∀ i y, xs[i]? = some y → Q i y
  | 0, _ => ⟨[], rfl, fun i y h => by simp at h⟩
  | k + 1, h => by
    obtain ⟨xs, h1, h2⟩ := list_of k (fun i hi => h i (by omega))
    obtain ⟨y, hy⟩ := h k (by omega)
    refine ⟨xs ++ [y], by simp [h1], fun i z hz => ?_⟩
    rcases Nat.lt_or_ge i xs.length with h | h
    · rw [List.getElem?_append_left h] at hz
      exact h2 i z hz
    · rw [List.getElem?_append_right h] at hz
      rcases Nat.eq_zero_or_pos (i - xs.length) with h0 | h0
      · rw [h0] at hz
        simp only [List.getElem?_cons_zero, Option.some.injEq] at hz
        subst hz
        have : i = k := by omega
        subst this
        exact hy
      · rw [List.getElem?_eq_none (by simp; omega)] at hz
        cases hz

theorem opens_slice {α : Type} {P : Program} {t e : TypeId} {d : Kd α} {I : α → Prop} (ht : P.underlying t = some (.slice e)) (hs : P.cellsOf t = 1) (he : Opens P e d I) :
    Opens P t (Kd.slice e d) (fun xs => xs.length ≤ maxLen ∧ ∀ x ∈ xs, I x) :=
  ⟨hs, fun enc w fuel cs x hx => by
    rcases open_slice ht hx with ⟨rfl, _⟩ | ⟨a, len, cap, m, n, D, Pl, rfl, _, hl, hm, hmm, _, hel⟩
    · exact ⟨[], ⟨none, 0, rfl, Nat.le_refl _, Kd.C_nil d w⟩, Nat.zero_le _, by simp⟩
    · simp only [if_true] at hmm
      subst hmm
      have hall : ∀ i, i < len → ∃ y : α, I y ∧ ∃ cs', w.cells? 0 (a.add (i * d.sz)) d.sz = some cs' ∧ d.K w y cs' := by
        intro i hi
        obtain ⟨cs', h1, h2⟩ := hel i (by omega)
        obtain ⟨y, h3, h4⟩ := he.op enc w n cs' _ h2
        rw [he.sz] at h1
        exact ⟨y, h4, cs', h1, h3⟩
      obtain ⟨xs, hxl, hxs⟩ := list_of len hall
      subst hxl
      refine ⟨xs, ⟨some a, m, rfl, hl, rfl, ?_, fun _ => ⟨a, rfl, fun j p hp => ?_⟩⟩, by omega, fun y hy => ?_⟩
      · have := hm; unfold maxLen at this; omega
      · obtain ⟨_, cs', h1, h2⟩ := hxs j p hp
        refine ⟨cs', d.K_len h2, h2, fun i u hu => ?_⟩
        have hlen := d.K_len h2
        have hi : i < d.sz := by
          have := (List.getElem?_eq_some_iff.1 hu).1
          omega
        have h6 := (World.cells?_some h1).2.2 i hi
        rw [hu] at h6
        rw [Go.Deep.add_add] at h6
        exact h6
      · obtain ⟨i, hi⟩ := List.getElem?_of_mem hy
        exact (hxs i y hi).1⟩

/-- The fields of a struct, one behind the other from cell o on. -/
structure OpensAt {α : Type} (P : Program) (fs : List Field) (o : Nat) (d : Kd α) (I : α → Prop) : Prop where
  op : ∀ {H : Type} (enc : TypeId × Value → H) (w : World) (fuel : Nat) (cs : List Value), o + d.sz ≤ cs.length →
    (∀ f ∈ fs, ∃ x, DataW.trod enc P w 0 (fun _ => true) true fuel f.type ((cs.drop f.offset).take (P.cellsOf f.type)) = some x) → ∃ a : α, d.K w a ((cs.drop o).take d.sz) ∧ I a

theorem opens_last {α : Type} {P : Program} {f : Field} {d : Kd α} {I : α → Prop} (h : Opens P f.type d I) : OpensAt P [f] f.offset d I :=
  ⟨fun enc w fuel cs hl hf => by
    obtain ⟨x, hx⟩ := hf f (by simp)
    rw [h.sz] at hx
    exact h.op enc w fuel _ x hx⟩

theorem opens_more {α β : Type} {P : Program} {f : Field} {fs : List Field} {d : Kd α} {d' : Kd β} {I : α → Prop} {J : β → Prop} (h : Opens P f.type d I) (k : OpensAt P fs (f.offset + d.sz) d' J) :
    OpensAt P (f :: fs) f.offset (Kd.pair d d') (fun x => I x.1 ∧ J x.2) :=
  ⟨fun enc w fuel cs hl hf => by
    have hs : (Kd.pair d d').sz = d.sz + d'.sz := rfl
    rw [hs] at hl ⊢
    obtain ⟨x, hx⟩ := hf f (by simp)
    rw [h.sz] at hx
    obtain ⟨a, h1, h2⟩ := h.op enc w fuel _ x hx
    obtain ⟨b, h3, h4⟩ := k.op enc w fuel cs (by omega) (fun g hg => hf g (by simp [hg]))
    refine ⟨(a, b), ⟨_, _, ?_, h1, h3⟩, h2, h4⟩
    rw [List.take_add, List.drop_drop]⟩

theorem opens_struct {α : Type} {P : Program} {t : TypeId} {fs : Array Field} {d : Kd α} {I : α → Prop} (ht : P.underlying t = some (.struct fs)) (hs : P.cellsOf t = d.sz) (h : OpensAt P fs.toList 0 d I) : Opens P t d I :=
  ⟨hs, fun enc w fuel cs x hx => by
    obtain ⟨xs, n, rfl, _, hlen, hxl, hall⟩ := DataW.trod_struct ht hx
    obtain ⟨a, h1, h2⟩ := h.op enc w n cs (by omega) (fun f hf => by
      obtain ⟨i, hi⟩ := List.getElem?_of_mem hf
      have hi' : fs[i]? = some f := by simpa using hi
      have hlt : i < xs.length := by
        have := (Array.getElem?_eq_some_iff.1 hi').1
        omega
      exact ⟨xs[i], by rw [hall i f hi', List.getElem?_eq_getElem hlt]⟩)
    refine ⟨a, ?_, h2⟩
    have e : (cs.drop 0).take d.sz = cs := by rw [List.drop_zero, List.take_of_length_le (by omega)]
    rwa [e] at h1⟩

theorem opens_iso {α β : Type} {P : Program} {t : TypeId} {d : Kd α} {I : α → Prop} (f : β → α) (g : α → β) (hg : ∀ x, f (g x) = x) (h : Opens P t d I) : Opens P t (Kd.iso d f) (fun y => I (f y)) :=
  ⟨h.sz, fun enc w fuel cs x hx => by
    obtain ⟨a, h1, h2⟩ := h.op enc w fuel cs x hx
    refine ⟨g a, ?_, ?_⟩
    · show d.K w (f (g a)) cs
      rw [hg]; exact h1
    · show I (f (g a))
      rw [hg]; exact h2⟩

/-- A value of one cell is that cell, if it is no struct of one field. -/
theorem one_cell {v u : Value} (h : v.cells.toList = [u]) (hv : ∀ cs, v = .agg cs → False) : v = u := by
  cases v with
  | agg cs => exact (hv cs rfl).elim
  | _ => simpa [Value.cells] using h

/-- What the arguments read as before the call they read as behind it, if nothing that was there has changed. -/
theorem below_all {H : Type} {enc : TypeId × Value → H} {P : Program} (hl : laidOutB P = true) {W W' : World} (hb : Below W.heap.size W W') :
    ∀ {ts : List TypeId} {vs : List Value} {ds : List (DataW H)} {ps : List MemPlace}, (∀ t ∈ ts, P.readableRec t = true ∧ t < P.types.size) →
      DataW.TrodAll enc P W 0 (fun _ => true) true ts vs ds ps → DataW.TrodAll enc P W' 0 (fun b => decide (b < W.heap.size)) true ts vs ds ps
  | [], [], [], _, _, h => h
  | t :: ts, v :: vs, d :: ds, ps, hr, h => by
    obtain ⟨p, q, h1, h2, rfl⟩ := h
    obtain ⟨a, b⟩ := hr t (by simp)
    exact ⟨p, q, Below.trod hl a b h1 hb (by obtain ⟨m, hm⟩ := h1; exact DataW.trod_lt m _ _ _ hm), below_all hl hb (fun t ht => hr t (by simp [ht])) h2, rfl⟩
  | [], [], _ :: _, _, _, h => h.elim
  | [], _ :: _, _, _, _, h => h.elim
  | _ :: _, [], _, _, _, h => h.elim
  | _ :: _, _ :: _, [], _, _, h => h.elim

end Go.Proofs.Ytleeifecdjolhaa.Open
