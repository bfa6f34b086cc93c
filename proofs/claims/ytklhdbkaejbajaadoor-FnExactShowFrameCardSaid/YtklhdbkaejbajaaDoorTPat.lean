/- Patches as numbers: what both sides gather. -/
import Derived.Test.YtklhdbkaejbajaaDoorTIn
import Derived.Test.YtklhdbkaejbajaaDoorTLps
import Derived.Test.YtklhdbkaejbajaaDoorTAdd
import Derived.Test.YtklhdbkaejbajaaDoorYFrame
import Derived.Test.YtklhdbkaejbajaaDoorSF
namespace Go.Proofs.YtklhdbkaejbajaaDoor.G
open Go.RowKit Go.Lib
set_option linter.unusedVariables false
set_option linter.unusedSimpArgs false

abbrev Sty := Int × Int × Bool × Bool × Bool
abbrev Cel := Int × Sty × Int
abbrev Chg := Int × Int × List Cel
abbrev Pat := Int × Int × List Chg
def bit (b : Bool) (n : Int) : Int := bif b then n else 0
def flagsM (s : Sty) : Int := bit s.2.2.1 1 + bit s.2.2.2.1 2 + bit s.2.2.2.2 4
def celN (c : Cel) : List Int := [c.1, c.2.1.1, c.2.1.2.1, flagsM c.2.1, c.2.2]
def chgN (x : Chg) : List Int := [x.1, x.2.1, (x.2.2.length : Int)] ++ x.2.2.flatMap celN
def patN (p : Pat) : List Int := [p.1, p.2.1] ++ p.2.2.flatMap chgN
def styP (s : Sty) : Bool := (decide (0 ≤ s.1) && decide (s.1 ≤ 8)) && (decide (0 ≤ s.2.1) && decide (s.2.1 ≤ 8))
def celP (c : Cel) : Bool := styP c.2.1
def chgP (x : Chg) : Bool := (decide (1 ≤ (x.2.2.length : Int)) && decide ((x.2.2.length : Int) ≤ 60)) && x.2.2.all celP
def numP (n : Int) : Bool := decide (0 ≤ n) && decide (n ≤ 9999999)

theorem celN_len (l : List Cel) : (l.flatMap celN).length = 5 * l.length := by
  induction l with
  | nil => rfl
  | cons x l ih => rw [List.flatMap_cons, List.length_append, ih, List.length_cons]; simp [celN]; omega
theorem chgP_len {x : Chg} (h : chgP x = true) : 1 ≤ x.2.2.length ∧ x.2.2.length ≤ 60 := by
  unfold chgP at h
  simp only [Bool.and_eq_true, decide_eq_true_eq] at h
  omega
theorem chgN_len {l : List Chg} (h : l.all chgP = true) : (l.flatMap chgN).length ≤ 303 * l.length := by
  induction l with
  | nil => simp
  | cons x l ih =>
    rw [List.all_cons, Bool.and_eq_true] at h
    have := ih h.2
    have := chgP_len h.1
    rw [List.flatMap_cons, List.length_append, List.length_cons]
    have e : (chgN x).length = 3 + 5 * x.2.2.length := by unfold chgN; rw [List.length_append, celN_len]; rfl
    omega
theorem take_snoc {α β : Type} {f : α → List β} {l : List α} {j : Nat} (h : j < l.length) : (l.take (j + 1)).flatMap f = (l.take j).flatMap f ++ f l[j] := by
  rw [List.take_add_one, List.getElem?_eq_getElem h, List.flatMap_append]; simp
theorem all_snoc {α : Type} {p : α → Bool} {l : List α} {j : Nat} (h : j < l.length) : (l.take (j + 1)).all p = ((l.take j).all p && p l[j]) := by
  rw [List.take_add_one, List.getElem?_eq_getElem h, List.all_append]; simp
theorem all_not {α : Type} {p : α → Bool} {l : List α} {j : Nat} (h : j < l.length) (hp : p l[j] = false) : l.all p = false := by
  rw [List.all_eq_false]
  exact ⟨l[j], List.getElem_mem h, by simp [hp]⟩

/-! Styles. -/
theorem impl_Style_flags_spec (s : Sty) : NN fn.impl_Style_flags [.agg (mStyle true s)] = some (.int .i64 (flagsM s)) := by
  obtain ⟨f, b, x, y, z⟩ := s
  apply S.impl_Style_flags.gives (k := 4)
  cases x <;> cases y <;> cases z <;> kernel_rfl
theorem spec_l3Flag_spec (b : Bool) (x y : Int) : NN fn.spec_l3Flag [.bool b, .int .i64 x, .int .i64 y] = some (.int .i64 (bif b then x else y)) := by
  apply S.spec_l3Flag.gives (k := 0)
  cases b <;> rfl
theorem spec_l10Flags_spec (s : Sty) : NN fn.spec_l10Flags [.agg (mStyle true s)] = some (.int .i64 (flagsM s)) := by
  obtain ⟨f, b, x, y, z⟩ := s
  apply S.spec_l10Flags.gives (k := 0)
  have k1 : ∀ (b : Bool) (x y : Int) H, kN NN fn.spec_l3Flag [.bool b, .int .i64 x, .int .i64 y] H = some (.int .i64 (bif b then x else y)) := fun b x y H => kN_at (by simp) (spec_l3Flag_spec b x y)
  cases x <;> cases y <;> cases z <;> simp [S.spec_l10Flags.run, k1, flagsM, bit, -kN_eq] <;> rfl
theorem impl_StyleOk_spec (s : Sty) : NN fn.impl_StyleOk [.agg (mStyle true s)] = some (.bool (styP s)) := by
  obtain ⟨f, b, x, y, z⟩ := s
  apply S.impl_StyleOk.gives (k := 0)
  have k1 : ∀ (a b c : Int) H, kN NN fn.impl_in [.int .i64 a, .int .i64 b, .int .i64 c] H = some (.bool (decide (b ≤ a) && decide (a ≤ c))) := fun a b c H => kN_at (by simp) (impl_in_spec a b c)
  simp only [styP]
  have q1 := k1 f 0 8
  have q2 := k1 b 0 8
  generalize (decide (0 ≤ f) && decide (f ≤ 8)) = c1 at *
  generalize (decide (0 ≤ b) && decide (b ≤ 8)) = c2 at *
  cases c1 <;> simp [S.impl_StyleOk.run, q1, q2, -kN_eq]
theorem spec_StyleOk_spec (s : Sty) : NN fn.spec_StyleOk [.agg (mStyle true s)] = some (.bool (styP s)) := by
  obtain ⟨f, b, x, y, z⟩ := s
  apply S.spec_StyleOk.gives (k := 0)
  have k1 : ∀ (a b c : Int) H, kN NN fn.spec_l1In [.int .i64 a, .int .i64 b, .int .i64 c] H = some (.bool (decide (b ≤ a) && decide (a ≤ c))) := fun a b c H => kN_at (by simp) (spec_l1In_spec a b c)
  simp only [styP]
  have q1 := k1 f 0 8
  have q2 := k1 b 0 8
  generalize (decide (0 ≤ f) && decide (f ≤ 8)) = c1 at *
  generalize (decide (0 ≤ b) && decide (b ≤ 8)) = c2 at *
  cases c1 <;> simp [S.spec_StyleOk.run, q1, q2, -kN_eq]

/-! A list of numbers that is gathered, beside blocks that stay. -/
def St (K : List (Nat × List GV)) (l : List Int) (x : GV × Heap) : Prop := BufG ci x.1 l x.2 ∧ ∀ q ∈ K, x.2[q.1]? = some q.2 ∧ q.1 ∉ kblk x.1
theorem BufG.below {α : Type} {mk : α → List GV} {v : GV} {l : List α} {h : Heap} (hb : BufG mk v l h) : ∀ i ∈ kblk v, i < h.length := by
  rcases hb with ⟨rfl, rfl⟩ | ⟨b, rfl, hh⟩
  · intro i hi; cases hi
  · intro i hi
    simp only [kblk, List.mem_singleton] at hi
    subst hi
    exact (List.getElem?_eq_some_iff.1 hh).1
theorem St.new {K : List (Nat × List GV)} {l : List Int} {v : GV} {H : Heap} (h : St K l (v, H)) (c : List GV) : St ((H.length, c) :: K) l (v, H ++ [c]) := by
  refine ⟨h.1.keep (R := []) .app (by simp), fun q hq => ?_⟩
  rcases List.mem_cons.1 hq with rfl | hq
  · refine ⟨by simp, fun hi => ?_⟩
    have := h.1.below _ hi
    simp at this
  · obtain ⟨a, b⟩ := h.2 q hq
    exact ⟨by rw [List.getElem?_append_left (List.getElem?_eq_some_iff.1 a).1]; exact a, b⟩
theorem St.drop {q : Nat × List GV} {K : List (Nat × List GV)} {l : List Int} {x : GV × Heap} (h : St (q :: K) l x) : St K l x := ⟨h.1, fun p hp => h.2 p (List.mem_cons_of_mem _ hp)⟩
theorem St.add {K : List (Nat × List GV)} {l : List Int} {v : GV} {H : Heap} (h : St K l (v, H)) (m : List Int) (hl : l.length + m.length ≤ 4194304) :
    ∃ v' H', kapp [.int .i64 0] 1 8 v (.sl H.length 0 m.length m.length 1) (H ++ [m.flatMap ci]) = some (v', H') ∧ St K (l ++ m) (v', H') := by
  have hb : BufG ci v l (H ++ [m.flatMap ci]) := h.1.keep (R := []) .app (by simp)
  obtain ⟨v', H', a1, a2, a3, a4⟩ := hb.add (mk := ci) (fun _ => rfl) (fun _ => rfl) (z := [.int .i64 0]) rfl (sz := 8) (by omega) (gcells_lit (mk := ci) (fun _ => rfl)) hl
  refine ⟨v', H', a1, a2, fun q hq => ?_⟩
  obtain ⟨b1, b2⟩ := h.2 q hq
  have hlt : q.1 < H.length := (List.getElem?_eq_some_iff.1 b1).1
  refine ⟨?_, fun hi => ?_⟩
  · rw [a3.2 q.1 (by rw [List.length_append]; omega) b2, List.getElem?_append_left hlt]
    exact b1
  · rcases a4 _ hi with c | c
    · exact b2 c
    · rw [List.length_append] at c
      omega

/-! A variable for one cell, for one change. -/
theorem var_new {H : Heap} {z c : List GV} {n : Nat} (hz : z.length = n) (hl : c.length = n) (hc : c.all GV.isCell = true) : kstore n (H ++ [z]) (.ptr H.length 0 n) (.agg c) = some (H ++ [c]) := by
  rw [kstore_ptr, cells_agg, if_pos ⟨hl, hc⟩, cellsAt_if]
  simp only [List.getElem?_concat_length, Option.bind_some, hz, if_true]
  rw [if_pos (by omega)]
  simp only [splice, List.take_zero, List.nil_append, Nat.zero_add, hl]
  rw [List.drop_of_length_le (by omega), List.append_nil]
  simp
theorem var_get {H : Heap} {p n o : Nat} {c : List GV} (h : H[p]? = some c) (hl : c.length = n) : kload1 H (.ptr p o n) = c[o]? := kload1_at h hl

end Go.Proofs.YtklhdbkaejbajaaDoor.G
