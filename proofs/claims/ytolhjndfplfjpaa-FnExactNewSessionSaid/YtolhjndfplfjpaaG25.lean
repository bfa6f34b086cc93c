/- Arguments that can be read as data, told to this machine: for each kind of value one lemma. -/
import Derived.Test.YtolhjndfplfjpaaG24
import Derived.Deep.Slices
import Derived.ChangeOld
import Derived.ChangeArms
import Derived.Carry
import Derived.ShutString
import Derived.ProofKit
namespace Go.Proofs.Ytolhjndfplfjpaa.G
open Go.RowKit Go.ChangeShapes Go.WideShapes Go.Deep
set_option linter.unusedVariables false

abbrev Told (w : World) (gs : List GV) (cs : List Value) : Prop := VRs w E0 (fun _ => False) gs (fun c => c < w.heap.size) cs

/-- A value of type t that can be read has the cells mk a, for some a that I holds of. -/
structure Tells {α : Type} (P : Program) (t : TypeId) (mk : α → List GV) (I : α → Prop) : Prop where
  len : ∀ a, (mk a).length = P.cellsOf t
  op : ∀ {H : Type} (enc : TypeId × Value → H) (w : World) (fuel : Nat) (cs : List Value) (x : DataW H × List MemPlace),
    DataW.trod enc P w 0 (fun _ => true) true fuel t cs = some x → ∃ a : α, Told w (mk a) cs ∧ I a

theorem tells_int {P : Program} {t : TypeId} {k : IntKind} (ht : P.underlying t = some (.int k)) (hs : P.cellsOf t = 1) : Tells P t (fun n => [GV.int k n]) (fun n => (Lit.int k n).wf = true) :=
  ⟨fun _ => hs.symm, fun enc w fuel cs x hx => by
    obtain ⟨n, rfl, _, hw⟩ := DataW.trod_int ht hx
    exact ⟨n, ⟨_, _, rfl, rfl, rfl⟩, hw⟩⟩
theorem tells_bool {P : Program} {t : TypeId} (ht : P.underlying t = some .bool) (hs : P.cellsOf t = 1) : Tells P t (fun n => [GV.bool n]) (fun _ => True) :=
  ⟨fun _ => hs.symm, fun enc w fuel cs x hx => by
    obtain ⟨n, rfl, _⟩ := DataW.trod_bool ht hx
    exact ⟨n, ⟨_, _, rfl, rfl, rfl⟩, trivial⟩⟩
theorem tells_string {P : Program} {t : TypeId} (ht : P.underlying t = some .string) (hs : P.cellsOf t = 1) : Tells P t (fun s => [GV.str s]) (fun s => s.size ≤ maxLen) :=
  ⟨fun _ => hs.symm, fun enc w fuel cs x hx => by
    obtain ⟨n, rfl, _, hw⟩ := DataW.trod_string ht hx
    exact ⟨n, ⟨_, _, rfl, rfl, rfl⟩, hw⟩⟩

theorem flat_len {α : Type} {f : α → List GV} {sz : Nat} (hf : ∀ a, (f a).length = sz) : ∀ xs : List α, (xs.flatMap f).length = xs.length * sz
  | [] => by simp
  | x :: xs => by rw [List.flatMap_cons, List.length_append, hf, flat_len hf xs, List.length_cons, Nat.add_mul]; omega
theorem flat_get {α : Type} {f : α → List GV} {sz : Nat} (hf : ∀ a, (f a).length = sz) : ∀ (xs : List α) (i r : Nat) (x : α), xs[i]? = some x → r < sz → (xs.flatMap f)[i * sz + r]? = (f x)[r]?
  | [], i, r, x, h, _ => by simp at h
  | y :: xs, 0, r, x, h, hr => by
    simp at h
    subst h
    rw [List.flatMap_cons, Nat.zero_mul, Nat.zero_add, List.getElem?_append_left (by rw [hf]; exact hr)]
  | y :: xs, i + 1, r, x, h, hr => by
    rw [List.flatMap_cons, List.getElem?_append_right (by rw [hf, Nat.add_mul]; omega), hf]
    rw [show (i + 1) * sz + r - sz = i * sz + r by rw [Nat.add_mul]; omega]
    exact flat_get hf xs i r x (by simpa using h) hr

theorem list_of {α : Type} {Q : Nat → α → Prop} : ∀ n : Nat, (∀ i, i < n → ∃ y, Q i y) → ∃ xs : List α, xs.length = n ∧ ∀ i y, xs[i]? = some y → Q i y
  | 0, _ => ⟨[], rfl, fun i y h => by simp at h⟩
  | k + 1, h => by
    obtain ⟨xs, h1, h2⟩ := list_of k (fun i hi => h i (by omega))
    obtain ⟨y, hy⟩ := h k (by omega)
    refine ⟨xs ++ [y], by simp [h1], fun i z hz => ?_⟩
    rcases Nat.lt_or_ge i xs.length with h | h
    · rw [List.getElem?_append_left h] at hz
      exact h2 i z hz
    · rw [List.getElem?_append_right h] at hz
      rcases Nat.eq_zero_or_pos (i - xs.length) with h0 | h0
      · rw [h0] at hz
        simp only [List.getElem?_cons_zero, Option.some.injEq] at hz
        subst hz
        have : i = k := by omega
        subst this
        exact hy
      · rw [List.getElem?_eq_none (by simp; omega)] at hz
        cases hz

/-- A slice, told by its elements; t: lent, or for good. -/
def fzl {α : Type} (t : Bool) (es : Nat) (mk : α → List GV) (xs : List α) : GV :=
  match xs with
  | [] => mt
  | x :: xs => .fz t (xs.length + 1) es ((x :: xs).flatMap mk)
def mkSl {α : Type} (es : Nat) (mk : α → List GV) (xs : List α) : List GV := [fzl true es mk xs]
def inSl {α : Type} (I : α → Prop) (xs : List α) : Prop := xs.length ≤ maxLen ∧ ∀ x ∈ xs, I x

theorem tells_slice {α : Type} {P : Program} {t e : TypeId} {mk : α → List GV} {I : α → Prop} (ht : P.underlying t = some (.slice e)) (hs : P.cellsOf t = 1) (he : Tells P e mk I) : Tells P t (mkSl (P.cellsOf e) mk) (inSl I) :=
  ⟨fun a => by simp [mkSl, hs], fun enc w fuel cs x hx => by
    rcases open_slice ht hx with ⟨rfl, _⟩ | ⟨a, len, cap, m, n, D, Pl, rfl, _, hl, hm, hmm, _, hel⟩
    · exact ⟨[], ⟨_, _, rfl, .inl ⟨rfl, rfl, rfl, rfl⟩, rfl⟩, by simp [inSl]⟩
    · simp only [if_true] at hmm
      subst hmm
      have hall : ∀ i, i < len → ∃ y : α, I y ∧ ∃ cs', w.cells? 0 (a.add (i * P.cellsOf e)) (P.cellsOf e) = some cs' ∧ Told w (mk y) cs' := by
        intro i hi
        obtain ⟨cs', h1, h2⟩ := hel i (by omega)
        obtain ⟨y, h3, h4⟩ := he.op enc w n cs' _ h2
        exact ⟨y, h4, cs', h1, h3⟩
      obtain ⟨xs, hxl, hxs⟩ := list_of len hall
      subst hxl
      cases xs with
      | nil => exact ⟨[], ⟨_, _, rfl, .inr ⟨a, m, rfl, hl, rfl, fun hne => (hne rfl).elim⟩, rfl⟩, by simp [inSl]⟩
      | cons x0 xs0 =>
      generalize hxe : x0 :: xs0 = xs at *
      refine ⟨xs, ⟨_, _, rfl, ?_, rfl⟩, by omega, fun y hy => ?_⟩
      · have hfz : fzl true (P.cellsOf e) mk xs = .fz true xs.length (P.cellsOf e) (xs.flatMap mk) := by subst hxe; rfl
        rw [hfz]
        refine .inr ⟨a, m, rfl, hl, flat_len he.len xs, fun hne => ?_⟩
        clear hfz
        have cellAt : ∀ j, j < xs.length * P.cellsOf e → ∃ u, w.cell? (a.add j) = some u ∧ ∀ g, (xs.flatMap mk)[j]? = some g → VR w E0 (fun _ => False) g (fun c => c < w.heap.size) u := by
          intro j hj
          have hpos : 0 < P.cellsOf e := by
            rcases Nat.eq_zero_or_pos (P.cellsOf e) with h0 | h0
            · rw [h0] at hj; simp at hj
            · exact h0
          have hi : j / P.cellsOf e < xs.length := Nat.div_lt_of_lt_mul (by rw [Nat.mul_comm]; exact hj)
          have hr := Nat.mod_lt j hpos
          obtain ⟨_, cs', h1, h2⟩ := hxs _ _ (List.getElem?_eq_getElem hi)
          have hlen := VRs_len h2
          rw [he.len] at hlen
          have h6 := (World.cells?_some h1).2.2 (j % P.cellsOf e) hr
          rw [Go.Deep.add_add] at h6
          rw [show j / P.cellsOf e * P.cellsOf e + j % P.cellsOf e = j by rw [Nat.mul_comm]; exact Nat.div_add_mod ..] at h6
          rw [List.getElem?_eq_getElem (by omega : j % P.cellsOf e < cs'.length)] at h6
          refine ⟨cs'[j % P.cellsOf e]'(by omega), h6, fun g hg => ?_⟩
          have h7 := flat_get he.len xs (j / P.cellsOf e) (j % P.cellsOf e) _ (List.getElem?_eq_getElem hi) hr
          rw [show j / P.cellsOf e * P.cellsOf e + j % P.cellsOf e = j by rw [Nat.mul_comm]; exact Nat.div_add_mod ..] at h7
          rw [h7] at hg
          obtain ⟨u, q1, q2⟩ := VRs_get h2 _ g hg
          rw [List.getElem?_eq_getElem (by omega : j % P.cellsOf e < cs'.length)] at q1
          simp only [Option.some.injEq] at q1
          rw [q1]
          exact q2
        have hflen := flat_len he.len xs
        have hpos : 0 < xs.length * P.cellsOf e := by
          rw [← hflen]
          exact List.length_pos_iff.2 hne
        refine ⟨?_, (List.range (xs.length * P.cellsOf e)).map fun j => (w.cell? (a.add j)).getD undef, ?_, fun j u hj => ?_⟩
        · obtain ⟨u, hu, _⟩ := cellAt 0 hpos
          have := block_lt_of_cell hu
          rw [add_block] at this
          simpa using this
        · simp only [if_true]
          refine VRs_of (by simp [hflen]) fun j g u h1 h2 => ?_
          have hj : j < xs.length * P.cellsOf e := by
            have := (List.getElem?_eq_some_iff.1 h1).1
            omega
          obtain ⟨u', q1, q2⟩ := cellAt j hj
          rw [List.getElem?_map, List.getElem?_range hj, Option.map_some, q1] at h2
          simp only [Option.getD_some, Option.some.injEq] at h2
          rw [← h2]
          exact q2 g h1
        · have hj' : j < xs.length * P.cellsOf e := by
            have := (List.getElem?_eq_some_iff.1 hj).1
            simpa using this
          obtain ⟨u', q1, q2⟩ := cellAt j hj'
          rw [List.getElem?_map, List.getElem?_range hj', Option.map_some, q1] at hj
          simp only [Option.getD_some, Option.some.injEq] at hj
          rw [← hj]
          exact q1
      · obtain ⟨i, hi⟩ := List.getElem?_of_mem hy
        exact (hxs i y hi).1⟩

/-- The fields of a struct, one behind the other from cell o on. -/
structure TellsAt {α : Type} (P : Program) (fs : List Field) (o sz : Nat) (mk : α → List GV) (I : α → Prop) : Prop where
  len : ∀ a, (mk a).length = sz
  op : ∀ {H : Type} (enc : TypeId × Value → H) (w : World) (fuel : Nat) (cs : List Value), o + sz ≤ cs.length →
    (∀ f ∈ fs, ∃ x, DataW.trod enc P w 0 (fun _ => true) true fuel f.type ((cs.drop f.offset).take (P.cellsOf f.type)) = some x) → ∃ a : α, Told w (mk a) ((cs.drop o).take sz) ∧ I a

theorem tells_last {α : Type} {P : Program} {f : Field} {mk : α → List GV} {I : α → Prop} (h : Tells P f.type mk I) : TellsAt P [f] f.offset (P.cellsOf f.type) mk I :=
  ⟨h.len, fun enc w fuel cs hl hf => by
    obtain ⟨x, hx⟩ := hf f (by simp)
    exact h.op enc w fuel _ x hx⟩

theorem tells_more {α β : Type} {P : Program} {f : Field} {fs : List Field} {sz : Nat} {mk : α → List GV} {mk' : β → List GV} {I : α → Prop} {J : β → Prop} (h : Tells P f.type mk I) (k : TellsAt P fs (f.offset + P.cellsOf f.type) sz mk' J) :
    TellsAt P (f :: fs) f.offset (P.cellsOf f.type + sz) (fun x : α × β => mk x.1 ++ mk' x.2) (fun x => I x.1 ∧ J x.2) :=
  ⟨fun a => by rw [List.length_append, h.len, k.len], fun enc w fuel cs hl hf => by
    obtain ⟨x, hx⟩ := hf f (by simp)
    obtain ⟨a, h1, h2⟩ := h.op enc w fuel _ x hx
    obtain ⟨b, h3, h4⟩ := k.op enc w fuel cs (by omega) (fun g hg => hf g (by simp [hg]))
    refine ⟨(a, b), ?_, h2, h4⟩
    rw [List.take_add, List.drop_drop]
    exact VRs_append h1 h3⟩

theorem tells_struct {α : Type} {P : Program} {t : TypeId} {fs : Array Field} {mk : α → List GV} {I : α → Prop} (ht : P.underlying t = some (.struct fs)) (h : TellsAt P fs.toList 0 (P.cellsOf t) mk I) : Tells P t mk I :=
  ⟨h.len, fun enc w fuel cs x hx => by
    obtain ⟨xs, n, rfl, _, hlen, hxl, hall⟩ := DataW.trod_struct ht hx
    obtain ⟨a, h1, h2⟩ := h.op enc w n cs (by omega) (fun f hf => by
      obtain ⟨i, hi⟩ := List.getElem?_of_mem hf
      have hi' : fs[i]? = some f := by simpa using hi
      have hlt : i < xs.length := by
        have := (Array.getElem?_eq_some_iff.1 hi').1
        omega
      exact ⟨xs[i], by rw [hall i f hi', List.getElem?_eq_getElem hlt]⟩)
    refine ⟨a, ?_, h2⟩
    have e : (cs.drop 0).take (P.cellsOf t) = cs := by rw [List.drop_zero, List.take_of_length_le (by omega)]
    rwa [e] at h1⟩

/-- The same, told by another type. -/
theorem tells_iso {α β : Type} {P : Program} {t : TypeId} {mk : α → List GV} {I : α → Prop} (f : β → α) (g : α → β) (hg : ∀ x, f (g x) = x) (h : Tells P t mk I) : Tells P t (fun y => mk (f y)) (fun y => I (f y)) :=
  ⟨fun a => h.len _, fun enc w fuel cs x hx => by
    obtain ⟨a, h1, h2⟩ := h.op enc w fuel cs x hx
    exact ⟨g a, by rw [hg]; exact h1, by rw [hg]; exact h2⟩⟩

end Go.Proofs.Ytolhjndfplfjpaa.G
