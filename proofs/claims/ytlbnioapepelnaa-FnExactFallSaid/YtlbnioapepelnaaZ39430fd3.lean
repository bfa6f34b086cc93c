/- Small functions that many laws reach. What stays as it was; one cell is read, is written. Data laid into memory: which blocks they have, how they are  -/
import Derived.Test.YtlbnioapepelnaaZc519251f
import Derived.Test.YtlbnioapepelnaaZd32dcad8
set_option linter.unusedSimpArgs false
set_option linter.unusedVariables false
namespace Go.Proofs.Ytlbnioapepelnaa.G
open Go.RowKit

@[simp] theorem bor_fn0 {d : Nat} {h : Heap} {f : FuncId} : bor (d + 1) h (.fn f []) = some (.fn f [], []) := rfl
theorem impl_in_spec (a b c : Int) : NN fn.impl_in [.int .i64 a, .int .i64 b, .int .i64 c] = some (.bool (decide (b ≤ a ∧ a ≤ c))) := by
  apply S.impl_in.gives (k := 0)
  by_cases h1 : b ≤ a <;> by_cases h2 : a ≤ c <;> simp [S.impl_in.run, h1, h2]
theorem spec_l1In_spec (a b c : Int) : NN fn.spec_l1In [.int .i64 a, .int .i64 b, .int .i64 c] = some (.bool (decide (b ≤ a ∧ a ≤ c))) := by
  apply S.spec_l1In.gives (k := 0)
  by_cases h1 : b ≤ a <;> by_cases h2 : a ≤ c <;> simp [S.spec_l1In.run, h1, h2]
theorem cmp_isNaN_int64_spec (a : Int) : NN fn.cmp_isNaN_int64 [.int .i64 a] = some (.bool false) := by
  apply S.cmp_isNaN_int64.gives (k := 0)
  simp [S.cmp_isNaN_int64.run]
theorem cmp_Less_int64_spec (a b : Int) : NN fn.cmp_Less_int64 [.int .i64 a, .int .i64 b] = some (.bool (decide (a < b))) := by
  apply S.cmp_Less_int64.gives (k := 0)
  simp [S.cmp_Less_int64.run, cmp_isNaN_int64_spec]
theorem slices_Equal_string_spec (xs ys : List ByteArray) (hm : xs.length ≤ 1048576) : NN fn.slices_Equal_string [fzl true 1 cs xs, fzl true 1 cs ys] = some (.bool (decide (xs = ys))) := by
  apply S.slices_Equal_string.gives (k := xs.length + 1)
  simp [S.slices_Equal_string.run]
  by_cases hl : xs.length = ys.length
  · have hi : (xs.length : Int) = ys.length := by omega
    simp [hi]
    refine (loop_all (f := fun r j => S.slices_Equal_string.l6 _ _ r _ _ _ _ (.int .i64 (j : Int)) _) (A := some (GV.bool true)) (B := some (GV.bool false)) (n := xs.length) (P := fun j => xs[j]? = ys[j]?) (fun j r hj => ?_) (fun r => ?_) (xs.length + 1) 0 (by omega) (by omega)).trans ?_
    · have h1 : (j : Int) < xs.length := by omega
      have h2 : (j : Int) < ys.length := by omega
      have h3 : j < ys.length := by omega
      have w := wrap_succ (n := j) (by simp only [maxLen]; omega)
      by_cases hc : xs[j] = ys[j]
      · simp [S.slices_Equal_string.l6, h1, h2, get_of hj, get_of h3, w, hc]
      · simp [S.slices_Equal_string.l6, h1, h2, get_of hj, get_of h3, w, hc]
    · simp [S.slices_Equal_string.l6, hi]
    · simp [list_eq_iff hl]
      by_cases hx : xs = ys <;> simp [hx]
  · have : ¬ ((xs.length : Int) = ys.length) := by omega
    have hne : xs ≠ ys := fun h => hl (by rw [h])
    simp [this, hne]
theorem spec_l17Same_spec (xs ys : List ByteArray) (hm : xs.length ≤ 1048576) : NN fn.spec_l17Same [fzl true 1 cs xs, fzl true 1 cs ys] = some (.bool (decide (xs = ys))) := by
  apply S.spec_l17Same.gives (k := xs.length + 1)
  simp [S.spec_l17Same.run]
  by_cases hl : xs.length = ys.length
  · have hi : (xs.length : Int) = ys.length := by omega
    simp [hi]
    refine (loop_all (f := fun r j => S.spec_l17Same.l6 _ _ r _ _ _ (.int .i64 (j : Int)) _) (A := some (GV.bool true)) (B := some (GV.bool false)) (n := xs.length) (P := fun j => xs[j]? = ys[j]?) (fun j r hj => ?_) (fun r => ?_) (xs.length + 1) 0 (by omega) (by omega)).trans ?_
    · have h1 : (j : Int) < xs.length := by omega
      have h2 : (j : Int) < ys.length := by omega
      have h3 : j < ys.length := by omega
      have w := wrap_succ (n := j) (by simp only [maxLen]; omega)
      by_cases hc : xs[j] = ys[j]
      · simp [S.spec_l17Same.l6, h1, h2, get_of hj, get_of h3, w, hc]
      · simp [S.spec_l17Same.l6, h1, h2, get_of hj, get_of h3, w, hc]
    · simp [S.spec_l17Same.l6]
    · simp [list_eq_iff hl]
      by_cases hx : xs = ys <;> simp [hx]
  · have : ¬ ((xs.length : Int) = ys.length) := by omega
    have hne : xs ≠ ys := fun h => hl (by rw [h])
    simp [this, hne]
theorem spec_l17Texts_spec (xs : List ByteArray) (hm : xs.length ≤ 4194304) (b : Nat) : OO fn.spec_l17Texts [fzl true 1 cs xs] b = if xs.length = 0 then some (.emp, []) else some (.sl b 0 xs.length xs.length 1, [xs.flatMap cs]) := by
  by_cases h : xs.length = 0
  · rw [if_pos h]
    apply S.spec_l17Texts.gives (k := 0)
    simp [S.spec_l17Texts.run, kapp_emp (mk := cs) (es := 1) (b := 16) (z := [.str { data := #[] }]) (fun _ => rfl) (fun _ => rfl) rfl (by omega) hm, h]
  · rw [if_neg h]
    apply S.spec_l17Texts.gives (k := 0)
    simp [S.spec_l17Texts.run, kapp_emp (mk := cs) (es := 1) (b := 16) (z := [.str { data := #[] }]) (fun _ => rfl) (fun _ => rfl) rfl (by omega) hm, h]
    have hl : (xs.flatMap cs).length = xs.length * 1 := len_flat (mk := cs) (es := 1) (fun _ => rfl) xs
    rw [finO_sl_pl (cs := xs.flatMap cs) (by simp) hl (Nat.le_refl _) (by rw [List.take_of_length_le (by omega)]; exact all_flat (fun _ => rfl) xs)]
    rw [List.take_of_length_le (by omega)]

theorem loop_find {α R : Type} {xs : List α} {p : α → Bool} {f : Nat → Nat → R} {A : Nat → R} {B : R} (h1 : ∀ j r (hj : j < xs.length), f (r + 1) j = if p xs[j] = true then A j else f r (j + 1)) (h2 : ∀ r, f (r + 1) xs.length = B) :
    ∀ r j, xs.length - j < r → j ≤ xs.length → f r j = if (xs.drop j).any p = true then A (j + (xs.drop j).findIdx p) else B := by
  intro r
  induction r with
  | zero => intro j h; omega
  | succ r ih =>
    intro j hr hj
    rcases Nat.lt_or_ge j xs.length with h | h
    · rw [h1 j r h, List.drop_eq_getElem_cons h, List.any_cons, List.findIdx_cons]
      by_cases hp : p xs[j] = true
      · simp [hp]
      · rw [if_neg hp, ih (j + 1) (by omega) (by omega)]
        simp only [Bool.not_eq_true] at hp
        simp only [hp, Bool.false_or, cond_false]
        split
        · congr 1; omega
        · rfl
    · have : j = xs.length := by omega
      subst this
      rw [h2 r]
      simp
theorem slices_IndexFunc_string_spec (xs : List ByteArray) (fv : GV) (p : ByteArray → Bool) (hm : xs.length ≤ 1048576) (hf : ∀ a ∈ xs, ∀ (h : Heap) (K : GV → Heap → Option GV), kval fv [.str a] h K = K (.bool (p a)) h) :
    NN fn.slices_IndexFunc_string [fzl true 1 cs xs, fv] = some (.int .i64 (if xs.any p = true then (xs.findIdx p : Int) else -1)) := by
  apply S.slices_IndexFunc_string.gives (k := xs.length + 1)
  simp [S.slices_IndexFunc_string.run, -List.any_eq_true]
  refine (loop_find (xs := xs) (p := p) (f := fun r j => S.slices_IndexFunc_string.l5 _ _ r _ _ _ _ (.int .i64 (j : Int)) _) (A := fun j => some (GV.int .i64 (j : Int))) (B := some (GV.int .i64 (-1))) (fun j r hj => ?_) (fun r => ?_) (xs.length + 1) 0 (by omega) (by omega)).trans ?_
  · have h1 : (j : Int) < xs.length := by omega
    have w := wrap_succ (n := j) (by simp only [maxLen]; omega)
    have hk := hf xs[j] (List.getElem_mem hj)
    cases hp : p xs[j] <;> simp [S.slices_IndexFunc_string.l5, h1, get_of hj, w, hk, hp]
  · simp [S.slices_IndexFunc_string.l5]
  · simp only [List.drop_zero, Nat.zero_add]
    by_cases hx : xs.any p = true
    · rw [if_pos hx, if_pos hx]
    · rw [if_neg hx, if_neg hx]
theorem slices_ContainsFunc_string_spec (xs : List ByteArray) (fv fv' : GV) (p : ByteArray → Bool) (hm : xs.length ≤ 1048576) (hb : bor 9 [] fv' = some (fv, [])) (hf : ∀ a ∈ xs, ∀ (h : Heap) (K : GV → Heap → Option GV), kval fv [.str a] h K = K (.bool (p a)) h) :
    NN fn.slices_ContainsFunc_string [fzl true 1 cs xs, fv'] = some (.bool (xs.any p)) := by
  apply S.slices_ContainsFunc_string.gives (k := 0)
  by_cases h : xs.any p = true
  · have : (0 : Int) ≤ (xs.findIdx p : Int) := by omega
    simp only [h]
    simp [S.slices_ContainsFunc_string.run, hb, slices_IndexFunc_string_spec xs fv p hm hf, -List.any_eq_true, h, this]
  · simp only [Bool.not_eq_true] at h
    simp only [h]
    simp [S.slices_ContainsFunc_string.run, hb, slices_IndexFunc_string_spec xs fv p hm hf, -List.any_eq_false, h]
theorem slices_IndexFunc_int64_spec (xs : List Int) (fv : GV) (p : Int → Bool) (hm : xs.length ≤ 1048576) (hf : ∀ a ∈ xs, ∀ (h : Heap) (K : GV → Heap → Option GV), kval fv [.int .i64 a] h K = K (.bool (p a)) h) :
    NN fn.slices_IndexFunc_int64 [fzl true 1 ci xs, fv] = some (.int .i64 (if xs.any p = true then (xs.findIdx p : Int) else -1)) := by
  apply S.slices_IndexFunc_int64.gives (k := xs.length + 1)
  simp [S.slices_IndexFunc_int64.run, -List.any_eq_true]
  refine (loop_find (xs := xs) (p := p) (f := fun r j => S.slices_IndexFunc_int64.l5 _ _ r _ _ _ _ (.int .i64 (j : Int)) _) (A := fun j => some (GV.int .i64 (j : Int))) (B := some (GV.int .i64 (-1))) (fun j r hj => ?_) (fun r => ?_) (xs.length + 1) 0 (by omega) (by omega)).trans ?_
  · have h1 : (j : Int) < xs.length := by omega
    have w := wrap_succ (n := j) (by simp only [maxLen]; omega)
    have hk := hf xs[j] (List.getElem_mem hj)
    cases hp : p xs[j] <;> simp [S.slices_IndexFunc_int64.l5, h1, get_of hj, w, hk, hp]
  · simp [S.slices_IndexFunc_int64.l5]
  · simp only [List.drop_zero, Nat.zero_add]
    by_cases hx : xs.any p = true
    · rw [if_pos hx, if_pos hx]
    · rw [if_neg hx, if_neg hx]
theorem slices_ContainsFunc_int64_spec (xs : List Int) (fv fv' : GV) (p : Int → Bool) (hm : xs.length ≤ 1048576) (hb : bor 9 [] fv' = some (fv, [])) (hf : ∀ a ∈ xs, ∀ (h : Heap) (K : GV → Heap → Option GV), kval fv [.int .i64 a] h K = K (.bool (p a)) h) :
    NN fn.slices_ContainsFunc_int64 [fzl true 1 ci xs, fv'] = some (.bool (xs.any p)) := by
  apply S.slices_ContainsFunc_int64.gives (k := 0)
  by_cases h : xs.any p = true
  · have : (0 : Int) ≤ (xs.findIdx p : Int) := by omega
    simp only [h]
    simp [S.slices_ContainsFunc_int64.run, hb, slices_IndexFunc_int64_spec xs fv p hm hf, -List.any_eq_true, h, this]
  · simp only [Bool.not_eq_true] at h
    simp only [h]
    simp [S.slices_ContainsFunc_int64.run, hb, slices_IndexFunc_int64_spec xs fv p hm hf, -List.any_eq_false, h]
theorem kval_isServer_1 {R : Type} {caps args : List GV} {h : Heap} {K : GV → Heap → Option R} : kval (.fn fn.impl_isServer_1 caps) args h K = (kN NN fn.impl_isServer_1 (args ++ caps) h).bind fun v => K v h := by kernel_rfl
theorem impl_isServer_1_spec (a : ByteArray) : NN fn.impl_isServer_1 [.str a] = some (.bool (decide (200 < (a.size : Int)))) := by
  apply S.impl_isServer_1.gives (k := 0)
  simp [S.impl_isServer_1.run]
def ServerP (log : List ByteArray) (sure : Int) : Prop := log.length ≤ 60 ∧ (0 ≤ sure ∧ sure ≤ log.length) ∧ ∀ a ∈ log, a.size ≤ 200
open Classical in
theorem impl_isServer_spec (log : List ByteArray) (sure : Int) (hm : log.length ≤ 1048576) : NN fn.impl_isServer [.agg [fzl true 1 cs log, .int .i64 sure]] = some (.bool (decide (ServerP log sure))) := by
  apply S.impl_isServer.gives (k := 0)
  have hs := slices_ContainsFunc_string_spec log (.fn fn.impl_isServer_1 []) (.fn fn.impl_isServer_1 []) (fun a => decide (200 < (a.size : Int))) hm rfl (fun a _ h K => by rw [kval_isServer_1]; simp [impl_isServer_1_spec])
  by_cases h1 : log.length ≤ 60
  · have h1' : (log.length : Int) ≤ 60 := by omega
    by_cases h2 : 0 ≤ sure ∧ sure ≤ log.length
    · have e : ServerP log sure ↔ (log.any fun a => decide (200 < (a.size : Int))) = false := by
        unfold ServerP
        simp only [h1, h2, true_and, List.any_eq_false, decide_eq_true_eq, and_self]
        constructor
        · intro h a ha; have := h a ha; omega
        · intro h a ha; have := h a ha; omega
      cases h3 : (log.any fun a => decide (200 < (a.size : Int))) with
      | false =>
        rw [h3] at hs
        rw [decide_eq_true (e.2 h3)]
        simp [S.impl_isServer.run, impl_in_spec, h1', h2, hs]
      | true =>
        rw [h3] at hs
        rw [decide_eq_false (fun h => by rw [e.1 h] at h3; cases h3)]
        simp [S.impl_isServer.run, impl_in_spec, h1', h2, hs]
    · have : ¬ ServerP log sure := fun h => h2 h.2.1
      have hd : decide (0 ≤ sure ∧ sure ≤ (log.length : Int)) = false := decide_eq_false h2
      have hi := impl_in_spec sure 0 log.length
      rw [hd] at hi
      simp [S.impl_isServer.run, hi, h1', this]
  · have h1' : ¬ (log.length : Int) ≤ 60 := by omega
    have : ¬ ServerP log sure := fun h => h1 h.1
    simp [S.impl_isServer.run, h1', this]
end Go.Proofs.Ytlbnioapepelnaa.G

namespace Go.Proofs.Ytlbnioapepelnaa.G
open Go.RowKit
def Fr (R : List Nat) (h h' : Heap) : Prop := h.length ≤ h'.length ∧ ∀ i, i < h.length → i ∉ R → h'[i]? = h[i]?
theorem Fr.refl {R : List Nat} {h : Heap} : Fr R h h := ⟨Nat.le_refl _, fun _ _ _ => rfl⟩
theorem Fr.trans {R : List Nat} {h h' h'' : Heap} (a : Fr R h h') (b : Fr R h' h'') : Fr R h h'' := ⟨Nat.le_trans a.1 b.1, fun i hi hn => (b.2 i (Nat.lt_of_lt_of_le hi a.1) hn).trans (a.2 i hi hn)⟩
theorem Fr.sub {R R' : List Nat} {h h' : Heap} (a : Fr R h h') (hs : ∀ i ∈ R, i ∈ R') : Fr R' h h' := ⟨a.1, fun i hi hn => a.2 i hi fun h => hn (hs i h)⟩
theorem Fr.set {R : List Nat} {h : Heap} {b : Nat} {c : List GV} (hb : b ∈ R) : Fr R h (h.set b c) := ⟨by rw [List.length_set]; exact Nat.le_refl _, fun i _ hn => List.getElem?_set_ne fun e => hn (by rw [← e]; exact hb)⟩
theorem Fr.app {R : List Nat} {h t : Heap} : Fr R h (h ++ t) := ⟨by rw [List.length_append]; omega, fun i hi _ => List.getElem?_append_left hi⟩
theorem kia_at {es b n j o tot : Nat} (hj : j < n) (ho : j * es = o) (ht : n * es = tot) : kia es (.sl b 0 n n es) (.int .i64 (j : Int)) = some (.ptr b o tot) := by
  rw [kia_sl, if_pos ⟨rfl, by omega, by omega⟩, ← ho, ← ht]
  simp
theorem kstore_at {h : Heap} {b o tot : Nat} {cells : List GV} {x : GV} (hb : h[b]? = some cells) (fl : cells.length = tot) (ho : o < tot) (hx : x.cells = [x]) (hc : x.isCell = true) : kstore 1 h (.ptr b o tot) x = some (h.set b (cells.set o x)) := by
  rw [kstore_ptr, if_pos ⟨by rw [hx]; rfl, by rw [hx]; simp [hc]⟩, cellsAt_if, hb]
  simp only [Option.bind_some, fl, if_true]
  rw [if_pos (by omega), hx, splice_one (by omega)]
theorem kload1_at {h : Heap} {b o tot : Nat} {cells : List GV} (hb : h[b]? = some cells) (fl : cells.length = tot) : kload1 h (.ptr b o tot) = cells[o]? := by
  rw [kload1_ptr, cellsAt_if, hb]
  simp [fl]
end Go.Proofs.Ytlbnioapepelnaa.G

namespace Go.Proofs.Ytlbnioapepelnaa.G
open Go.RowKit
abbrev Rel (α : Type) := Heap → List GV → α → List Nat → Prop
inductive All3 {α : Type} (E : List GV → α → List Nat → Prop) : List (List GV) → List α → List (List Nat) → Prop
  | nil : All3 E [] [] []
  | cons {c : List GV} {x : α} {r : List Nat} {cs : List (List GV)} {xs : List α} {rs : List (List Nat)} : E c x r → All3 E cs xs rs → All3 E (c :: cs) (x :: xs) (r :: rs)
def RFl {α : Type} (mk : α → List GV) : Rel α := fun h c x R => c = mk x ∧ R = []
def RSl {α : Type} (es : Nat) (E : Rel α) : Rel (List α) := fun h c xs R =>
  (xs = [] ∧ R = [] ∧ (c = [.emp] ∨ c = [.nils])) ∨ ∃ b css Rs, c = [.sl b 0 xs.length xs.length es] ∧ h[b]? = some css.flatten ∧ All3 (E h) css xs Rs ∧ R = b :: Rs.flatten
def RSeq {α β : Type} (E : Rel α) (F : Rel β) : Rel (α × β) := fun h c x R => ∃ c1 c2 R1 R2, c = c1 ++ c2 ∧ R = R1 ++ R2 ∧ E h c1 x.1 R1 ∧ F h c2 x.2 R2

structure Good {α : Type} (es d : Nat) (mk : α → List GV) (E : Rel α) : Prop where
  len : ∀ {h c x R}, E h c x R → c.length = es
  mkl : ∀ x, (mk x).length = es
  brw : ∀ {h c x R}, E h c x R → ∀ D, ∃ ys, c.mapM (bor (D + d) h) = some ys ∧ ys.map (·.1) = mk x ∧ (ys.map (·.2)).flatten = R
  frame : ∀ {h c x R h'}, E h c x R → (∀ i ∈ R, h'[i]? = h[i]?) → E h' c x R
  mem : ∀ {h c x R}, E h c x R → ∀ i ∈ R, i < h.length
  own : ∀ {h c x R}, E h c x R → ∀ D b, ∃ c' vis bl, ownL (own (D + d) h) b c = some (c', vis, bl) ∧ vis.map (·.1) = R ∧ ∀ H T, H.length = b → E (H ++ bl ++ T) c' x (List.range' b bl.length)
  cell : ∀ {h c x R}, E h c x R → c.all GV.isCell = true

theorem RFl.good {α : Type} {es : Nat} {mk : α → List GV} (hl : ∀ x, (mk x).length = es) (hp : ∀ x, (mk x).all Pl = true) : Good es 1 mk (RFl mk) where
  len := by rintro h c x R ⟨rfl, rfl⟩; exact hl x
  mkl := hl
  brw := by
    rintro h c x R ⟨rfl, rfl⟩ D
    have : ∀ l : List GV, l.all Pl = true → l.mapM (bor (D + 1) h) = some (l.map fun g => (g, [])) := by
      intro l
      induction l with
      | nil => intro _; rfl
      | cons g l ih =>
        intro hl
        rw [List.all_cons, Bool.and_eq_true] at hl
        rw [List.mapM_cons, ih hl.2]
        cases g <;> first | rfl | cases hl.1
    refine ⟨_, this _ (hp x), ?_, ?_⟩
    · rw [List.map_map]; exact List.map_id _
    · rw [List.map_map]
      generalize mk x = l
      induction l with
      | nil => rfl
      | cons g l ih => rw [List.map_cons, List.flatten_cons, ih]; rfl
  frame := fun h _ => h
  mem := by rintro h c x R ⟨rfl, rfl⟩ i hi; cases hi
  own := by
    rintro h c x R ⟨rfl, rfl⟩ D b
    exact ⟨mk x, [], [], ownL_pl (hp x), rfl, fun H T _ => ⟨rfl, rfl⟩⟩
  cell := by
    rintro h c x R ⟨rfl, rfl⟩
    have := hp x
    rw [List.all_eq_true] at this ⊢
    intro g hg
    have := this g hg
    cases g <;> first | rfl | cases this

theorem mapM_app {f : GV → Option (GV × List Nat)} {l1 l2 : List GV} {y1 y2 : List (GV × List Nat)} (h1 : l1.mapM f = some y1) (h2 : l2.mapM f = some y2) : (l1 ++ l2).mapM f = some (y1 ++ y2) := mapM_append' h1 h2
theorem ownL_app {f : Nat → GV → Option (GV × Vis × List (List GV))} : ∀ {l1 l2 : List GV} {b : Nat} {c1 c2 : List GV} {v1 v2 : Vis} {b1 b2 : List (List GV)}, ownL f b l1 = some (c1, v1, b1) → ownL f (b + b1.length) l2 = some (c2, v2, b2) → ownL f b (l1 ++ l2) = some (c1 ++ c2, v1 ++ v2, b1 ++ b2)
  | [], l2, b, c1, c2, v1, v2, b1, b2, h1, h2 => by
    obtain ⟨⟩ := h1
    exact h2
  | g :: l1, l2, b, c1, c2, v1, v2, b1, b2, h1, h2 => by
    unfold ownL at h1
    obtain ⟨r, h3, h4⟩ := obsi.1 h1
    obtain ⟨q, h5, h6⟩ := obsi.1 h4
    obtain ⟨⟩ := h6
    rw [List.cons_append]
    unfold ownL
    rw [h3]
    simp only [Option.bind_some]
    rw [ownL_app (c1 := q.1) (v1 := q.2.1) (b1 := q.2.2) h5 (by rw [List.length_append, ← Nat.add_assoc] at h2; exact h2)]
    simp

theorem RSeq.good {α β : Type} {es es' d : Nat} {mk : α → List GV} {mk' : β → List GV} {E : Rel α} {F : Rel β} (hE : Good es d mk E) (hF : Good es' d mk' F) : Good (es + es') d (fun x : α × β => mk x.1 ++ mk' x.2) (RSeq E F) where
  len := by rintro h c x R ⟨c1, c2, R1, R2, rfl, rfl, h1, h2⟩; rw [List.length_append, hE.len h1, hF.len h2]
  mkl := fun x => by rw [List.length_append, hE.mkl, hF.mkl]
  brw := by
    rintro h c x R ⟨c1, c2, R1, R2, rfl, rfl, h1, h2⟩ D
    obtain ⟨y1, a1, a2, a3⟩ := hE.brw h1 D
    obtain ⟨y2, b1, b2, b3⟩ := hF.brw h2 D
    exact ⟨y1 ++ y2, mapM_app a1 b1, by rw [List.map_append, a2, b2], by rw [List.map_append, List.flatten_append, a3, b3]⟩
  frame := by
    rintro h c x R h' ⟨c1, c2, R1, R2, rfl, rfl, h1, h2⟩ hf
    exact ⟨c1, c2, R1, R2, rfl, rfl, hE.frame h1 fun i hi => hf i (List.mem_append_left _ hi), hF.frame h2 fun i hi => hf i (List.mem_append_right _ hi)⟩
  mem := by
    rintro h c x R ⟨c1, c2, R1, R2, rfl, rfl, h1, h2⟩ i hi
    rcases List.mem_append.1 hi with hi | hi
    · exact hE.mem h1 i hi
    · exact hF.mem h2 i hi
  own := by
    rintro h c x R ⟨c1, c2, R1, R2, rfl, rfl, h1, h2⟩ D b
    obtain ⟨c1', v1, l1, a1, a2, a3⟩ := hE.own h1 D b
    obtain ⟨c2', v2, l2, b1, b2, b3⟩ := hF.own h2 D (b + l1.length)
    refine ⟨c1' ++ c2', v1 ++ v2, l1 ++ l2, ownL_app a1 b1, by rw [List.map_append, a2, b2], fun H T hH => ?_⟩
    refine ⟨c1', c2', List.range' b l1.length, List.range' (b + l1.length) l2.length, rfl, by rw [List.length_append, List.range'_append_1], ?_, ?_⟩
    · have := a3 H (l2 ++ T) hH
      simpa only [List.append_assoc] using this
    · have := b3 (H ++ l1) T (by rw [List.length_append, hH])
      simpa only [List.append_assoc] using this
  cell := by
    rintro h c x R ⟨c1, c2, R1, R2, rfl, rfl, h1, h2⟩
    rw [List.all_append, hE.cell h1, hF.cell h2]; rfl

theorem All3.len {α : Type} {E : List GV → α → List Nat → Prop} {css : List (List GV)} {xs : List α} {Rs : List (List Nat)} (h : All3 E css xs Rs) : css.length = xs.length ∧ Rs.length = xs.length := by
  induction h with
  | nil => exact ⟨rfl, rfl⟩
  | cons _ _ ih => exact ⟨by simp [ih.1], by simp [ih.2]⟩
theorem All3.flen {α : Type} {E : List GV → α → List Nat → Prop} {es : Nat} (hl : ∀ {c x R}, E c x R → c.length = es) {css : List (List GV)} {xs : List α} {Rs : List (List Nat)} (h : All3 E css xs Rs) : css.flatten.length = xs.length * es ∧ ∀ c ∈ css, c.length = es := by
  induction h with
  | nil => exact ⟨by simp, fun c h => by cases h⟩
  | cons a _ ih =>
    refine ⟨?_, fun c hc => ?_⟩
    · rw [List.flatten_cons, List.length_append, ih.1, hl a, List.length_cons, Nat.add_mul]; omega
    · rcases List.mem_cons.1 hc with rfl | hc
      · exact hl a
      · exact ih.2 c hc
theorem All3.frame {α : Type} {E : Rel α} {h h' : Heap} (hf : ∀ {c x R}, E h c x R → (∀ i ∈ R, h'[i]? = h[i]?) → E h' c x R) {css : List (List GV)} {xs : List α} {Rs : List (List Nat)} (ha : All3 (E h) css xs Rs) (hi : ∀ i ∈ Rs.flatten, h'[i]? = h[i]?) : All3 (E h') css xs Rs := by
  induction ha with
  | nil => exact .nil
  | cons a _ ih =>
    rw [List.flatten_cons] at hi
    exact .cons (hf a fun i h => hi i (List.mem_append_left _ h)) (ih fun i h => hi i (List.mem_append_right _ h))
theorem All3.mem {α : Type} {E : List GV → α → List Nat → Prop} {n : Nat} (hm : ∀ {c x R}, E c x R → ∀ i ∈ R, i < n) {css : List (List GV)} {xs : List α} {Rs : List (List Nat)} (ha : All3 E css xs Rs) : ∀ i ∈ Rs.flatten, i < n := by
  induction ha with
  | nil => intro i hi; cases hi
  | cons a _ ih =>
    intro i hi
    rw [List.flatten_cons] at hi
    rcases List.mem_append.1 hi with hi | hi
    · exact hm a i hi
    · exact ih i hi
theorem All3.brw {α : Type} {es d : Nat} {mk : α → List GV} {E : Rel α} (hE : Good es d mk E) {h : Heap} (D : Nat) {css : List (List GV)} {xs : List α} {Rs : List (List Nat)} (ha : All3 (E h) css xs Rs) : ∃ ys, css.flatten.mapM (bor (D + d) h) = some ys ∧ ys.map (·.1) = xs.flatMap mk ∧ (ys.map (·.2)).flatten = Rs.flatten := by
  induction ha with
  | nil => exact ⟨[], rfl, rfl, rfl⟩
  | cons a _ ih =>
    obtain ⟨y1, a1, a2, a3⟩ := hE.brw a D
    obtain ⟨y2, b1, b2, b3⟩ := ih
    exact ⟨y1 ++ y2, mapM_app a1 b1, by rw [List.map_append, a2, b2]; rfl, by rw [List.map_append, List.flatten_append, a3, b3]; rfl⟩
theorem All3.own {α : Type} {es d : Nat} {mk : α → List GV} {E : Rel α} (hE : Good es d mk E) {h : Heap} (D : Nat) {css : List (List GV)} {xs : List α} {Rs : List (List Nat)} (ha : All3 (E h) css xs Rs) : ∀ b, ∃ css' vis bl Rs', ownL (own (D + d) h) b css.flatten = some (css'.flatten, vis, bl) ∧ vis.map (·.1) = Rs.flatten ∧ Rs'.flatten = List.range' b bl.length ∧ ∀ H T, H.length = b → All3 (E (H ++ bl ++ T)) css' xs Rs' := by
  induction ha with
  | nil => exact fun b => ⟨[], [], [], [], rfl, rfl, rfl, fun H T _ => .nil⟩
  | cons a _ ih =>
    intro b
    obtain ⟨c', v1, l1, a1, a2, a3⟩ := hE.own a D b
    obtain ⟨css', v2, l2, Rs', b1, b2, b3, b4⟩ := ih (b + l1.length)
    refine ⟨c' :: css', v1 ++ v2, l1 ++ l2, List.range' b l1.length :: Rs', ?_, by rw [List.map_append, a2, b2]; rfl, by rw [List.flatten_cons, b3, List.length_append, List.range'_append_1], fun H T hH => .cons ?_ ?_⟩
    · rw [List.flatten_cons, List.flatten_cons]; exact ownL_app a1 b1
    · have := a3 H (l2 ++ T) hH
      simpa only [List.append_assoc] using this
    · have := b4 (H ++ l1) T (by rw [List.length_append, hH])
      simpa only [List.append_assoc] using this

theorem RSl.good {α : Type} {es d : Nat} {mk : α → List GV} {E : Rel α} (hE : Good es d mk E) : Good 1 (d + 1) (fun xs : List α => [fzl true es mk xs]) (RSl es E) where
  len := by
    rintro h c xs R (⟨_, _, hc⟩ | ⟨b, css, Rs, rfl, _⟩)
    · rcases hc with rfl | rfl <;> rfl
    · rfl
  mkl := fun _ => rfl
  brw := by
    rintro h c xs R (⟨rfl, rfl, hc⟩ | ⟨b, css, Rs, rfl, hb, ha, rfl⟩) D
    · rcases hc with rfl | rfl
      · exact ⟨[(mt, [])], rfl, rfl, rfl⟩
      · exact ⟨[(mt, [])], rfl, rfl, rfl⟩
    · obtain ⟨ys, a1, a2, a3⟩ := All3.brw hE D ha
      obtain ⟨fl, _⟩ := All3.flen (fun h => hE.len h) ha
      have e : bor (D + (d + 1)) h (.sl b 0 xs.length xs.length es) = some (fzl true es mk xs, b :: Rs.flatten) := by
        rw [← Nat.add_assoc]
        simp only [bor, Option.bind_eq_bind, cellsAt_if, hb, Nat.zero_add, fl, if_true, Option.bind_some, List.drop_zero]
        rw [List.take_of_length_le (by omega), a1]
        simp only [Option.bind_some, Nat.le_refl, if_true]
        cases xs with
        | nil =>
          cases ha
          cases ys with
          | nil => rfl
          | cons y ys => cases a1
        | cons x xs => simp only [List.length_cons, fzl, a2, a3]
      exact ⟨[(fzl true es mk xs, b :: Rs.flatten)], by rw [List.mapM_cons, e]; rfl, rfl, by simp⟩
  frame := by
    rintro h c xs R h' (hc | ⟨b, css, Rs, rfl, hb, ha, rfl⟩) hf
    · exact Or.inl hc
    · exact Or.inr ⟨b, css, Rs, rfl, (hf b (List.mem_cons_self ..)).trans hb, All3.frame (fun a b => hE.frame a b) ha (fun i hi => hf i (List.mem_cons_of_mem _ hi)), rfl⟩
  mem := by
    rintro h c xs R (⟨_, rfl, _⟩ | ⟨b, css, Rs, rfl, hb, ha, rfl⟩) i hi
    · cases hi
    · rcases List.mem_cons.1 hi with rfl | hi
      · exact (List.getElem?_eq_some_iff.1 hb).1
      · exact All3.mem (fun a => hE.mem a) ha i hi
  own := by
    rintro h c xs R (⟨rfl, rfl, hc⟩ | ⟨b0, css, Rs, rfl, hb, ha, rfl⟩) D b
    · refine ⟨c, [], [], ?_, rfl, fun H T _ => Or.inl ⟨rfl, rfl, hc⟩⟩
      rcases hc with rfl | rfl <;> rfl
    · obtain ⟨css', vis, bl, Rs', a1, a2, a3, a4⟩ := All3.own hE D ha (b + 1)
      obtain ⟨fl, _⟩ := All3.flen (fun h => hE.len h) ha
      have e : own (D + (d + 1)) h b (.sl b0 0 xs.length xs.length es) = some (.sl b 0 xs.length xs.length es, (b0, 0, 0 + xs.length * es) :: vis, css'.flatten :: bl) := by
        rw [← Nat.add_assoc]
        simp only [Go.Proofs.Ytlbnioapepelnaa.G.own, cellsAt_if, hb, Nat.zero_add, fl, if_true, Option.bind_some, List.drop_zero, Nat.le_refl]
        rw [List.take_of_length_le (by omega), a1]
        rfl
      refine ⟨[.sl b 0 xs.length xs.length es], (b0, 0, 0 + xs.length * es) :: vis, css'.flatten :: bl, ?_, ?_, fun H T hH => Or.inr ⟨b, css', Rs', rfl, ?_, ?_, ?_⟩⟩
      · unfold ownL
        rw [e]
        simp [ownL]
      · rw [List.map_cons, a2]
      · rw [List.append_assoc, List.getElem?_append_right (by omega), hH, Nat.sub_self]; rfl
      · have := a4 (H ++ [css'.flatten]) T (by rw [List.length_append, hH]; rfl)
        simpa only [List.append_assoc, List.cons_append, List.nil_append] using this
      · rw [a3, List.length_cons, List.range'_succ]
  cell := by
    rintro h c xs R (⟨_, _, hc⟩ | ⟨b, css, Rs, rfl, _⟩)
    · rcases hc with rfl | rfl <;> rfl
    · rfl

theorem nodupB_of : ∀ {l : List Nat}, l.Nodup → nodupB l = true
  | [], _ => rfl
  | a :: l, h => by
    rw [List.nodup_cons] at h
    unfold nodupB
    rw [Bool.and_eq_true]
    refine ⟨?_, nodupB_of h.2⟩
    rw [List.all_eq_true]
    intro b hb
    cases hh : Nat.beq a b with
    | false => rfl
    | true => exact absurd (Nat.eq_of_beq_eq_true hh ▸ hb) h.1
theorem Good.fin {α : Type} {d : Nat} {mk : α → List GV} {E : Rel α} (hE : Good 1 d mk E) (hd : d ≤ 9) {h : Heap} {v : GV} {x : α} {R : List Nat} (he : E h [v] x R) (nd : R.Nodup) (b : Nat) : ∃ v' bl, finO b v h = some (v', bl) ∧ ∀ H T, H.length = b → E (H ++ bl ++ T) [v'] x (List.range' b bl.length) := by
  obtain ⟨c', vis, bl, a1, a2, a3⟩ := hE.own he (9 - d) b
  rw [show 9 - d + d = 9 by omega] at a1
  unfold ownL at a1
  obtain ⟨r, b1, b2⟩ := obsi.1 a1
  obtain ⟨q, b3, b4⟩ := obsi.1 b2
  obtain ⟨⟩ := b3
  simp only [Option.some.injEq, Prod.mk.injEq, List.append_nil] at b4
  obtain ⟨rfl, rfl, rfl⟩ := b4
  refine ⟨r.1, r.2.2, ?_, a3⟩
  unfold finO ownOk
  simp only [b1, Option.bind_some, a2, nodupB_of nd, cond_true]
theorem Good.lend1 {α : Type} {d : Nat} {mk : α → List GV} {E : Rel α} (hE : Good 1 d mk E) (hd : d ≤ 9) {h : Heap} {v : GV} {x : α} {R : List Nat} (he : E h [v] x R) : ∃ g, bor 9 h v = some (g, R) ∧ mk x = [g] := by
  obtain ⟨ys, a1, a2, a3⟩ := hE.brw he (9 - d)
  rw [show 9 - d + d = 9 by omega] at a1
  rw [List.mapM_cons] at a1
  obtain ⟨y, b1, b2⟩ := obsi.1 a1
  simp only [List.mapM_nil, Option.pure_def, Option.bind_some, Option.bind_eq_bind, Option.some.injEq] at b2
  subst b2
  simp only [List.map_cons, List.map_nil, List.flatten_cons, List.flatten_nil, List.append_nil] at a2 a3
  exact ⟨y.1, by rw [b1, ← a3], a2.symm⟩
theorem RSl.len {α : Type} {es : Nat} {E : Rel α} {h : Heap} {v : GV} {xs : List α} {R : List Nat} (he : RSl es E h [v] xs R) : klen v = some (.int .i64 xs.length) := by
  rcases he with ⟨rfl, _, hc⟩ | ⟨b, css, Rs, hv, _⟩
  · rcases hc with hc | hc <;> (injection hc with hc; subst hc; rfl)
  · injection hv with hv; subst hv; rfl
theorem Good.mono {α : Type} {es d d' : Nat} {mk : α → List GV} {E : Rel α} (hE : Good es d mk E) (hd : d ≤ d') : Good es d' mk E where
  len := hE.len
  mkl := hE.mkl
  brw := fun h D => by
    have := hE.brw h (D + (d' - d))
    rwa [show D + (d' - d) + d = D + d' by omega] at this
  frame := hE.frame
  mem := hE.mem
  own := fun h D b => by
    have := hE.own h (D + (d' - d)) b
    rwa [show D + (d' - d) + d = D + d' by omega] at this
  cell := hE.cell
theorem Good.keep {α : Type} {es d : Nat} {mk : α → List GV} {E : Rel α} (hE : Good es d mk E) {h h' : Heap} {c : List GV} {x : α} {R R' : List Nat} (he : E h c x R) (hf : Fr R' h h') (hd : ∀ i ∈ R, i ∉ R') : E h' c x R :=
  hE.frame he fun i hi => hf.2 i (hE.mem he i hi) (hd i hi)
theorem Good.grow {α : Type} {es d : Nat} {mk : α → List GV} {E : Rel α} (hE : Good es d mk E) {h t : Heap} {c : List GV} {x : α} {R : List Nat} (he : E h c x R) : E (h ++ t) c x R :=
  hE.frame he fun i hi => List.getElem?_append_left (hE.mem he i hi)

theorem nd_range {a l : Nat} {X : List Nat} (hX : X.Nodup) (h : ∀ x ∈ X, a + l ≤ x) : (List.range' a l ++ X).Nodup := by
  rw [List.nodup_append]
  refine ⟨List.nodup_range', hX, fun x hx y hy e => ?_⟩
  rw [List.mem_range'_1] at hx
  have := h y hy
  omega
def Bd (R : List Nat) (a b : Nat) : Prop := ∀ i ∈ R, a ≤ i ∧ i < b
theorem Bd.no {R : List Nat} {a b p : Nat} (h : Bd R a b) (hp : p < a ∨ b ≤ p) : p ∉ R := fun hi => by have := h p hi; omega
theorem Bd.apart {R R' : List Nat} {a b a' b' : Nat} (h : Bd R a b) (h' : Bd R' a' b') (hp : b ≤ a' ∨ b' ≤ a) : ∀ i ∈ R, i ∉ R' := fun i hi hi' => by have := h i hi; have := h' i hi'; omega
theorem no_nil {p : Nat} : p ∉ ([] : List Nat) := List.not_mem_nil
end Go.Proofs.Ytlbnioapepelnaa.G

namespace Go.Proofs.Ytlbnioapepelnaa.G
open Go.RowKit

theorem Good.finS {α : Type} {es d : Nat} {mk : α → List GV} {E : Rel α} (hE : Good es d mk E) (hd : d ≤ 8) {h : Heap} {c : List GV} {x : α} {R : List Nat} (he : E h c x R) (nd : R.Nodup) (b : Nat) : ∃ c' bl, finO b (.agg c) h = some (.agg c', bl) ∧ ∀ H T, H.length = b → E (H ++ bl ++ T) c' x (List.range' b bl.length) := by
  obtain ⟨c', vis, bl, a1, a2, a3⟩ := hE.own he (8 - d) b
  rw [show 8 - d + d = 8 by omega] at a1
  refine ⟨c', bl, ?_, a3⟩
  unfold finO ownOk
  have e : Go.Proofs.Ytlbnioapepelnaa.G.own 9 h b (.agg c) = some (.agg c', vis, bl) := by
    show (ownL (Go.Proofs.Ytlbnioapepelnaa.G.own 8 h) b c).bind _ = _
    rw [a1]; rfl
  simp only [e, Option.bind_some, a2, nodupB_of nd, cond_true]
theorem Good.finT {α : Type} {es d : Nat} {mk : α → List GV} {E : Rel α} (hE : Good es d mk E) (hd : d ≤ 7) {h : Heap} {c : List GV} {x : α} {R : List Nat} {t : Bool} (he : E h c x R) (nd : R.Nodup) (b : Nat) : ∃ c' bl, finO b (.tup [.agg c, .bool t]) h = some (.tup [.agg c', .bool t], bl) ∧ ∀ H T, H.length = b → E (H ++ bl ++ T) c' x (List.range' b bl.length) := by
  obtain ⟨c', vis, bl, a1, a2, a3⟩ := hE.own he (7 - d) b
  rw [show 7 - d + d = 7 by omega] at a1
  refine ⟨c', bl, ?_, a3⟩
  unfold finO ownOk
  have e : Go.Proofs.Ytlbnioapepelnaa.G.own 9 h b (.tup [.agg c, .bool t]) = some (.tup [.agg c', .bool t], vis, bl) := by
    show (ownL (Go.Proofs.Ytlbnioapepelnaa.G.own 8 h) b [.agg c, .bool t]).bind _ = _
    have e1 : Go.Proofs.Ytlbnioapepelnaa.G.own 8 h b (.agg c) = some (.agg c', vis, bl) := by
      show (ownL (Go.Proofs.Ytlbnioapepelnaa.G.own 7 h) b c).bind _ = _
      rw [a1]; rfl
    unfold ownL
    rw [e1]
    simp [ownL, Go.Proofs.Ytlbnioapepelnaa.G.own]
  simp only [e, Option.bind_some, a2, nodupB_of nd, cond_true]
theorem Good.lendS {α : Type} {es d : Nat} {mk : α → List GV} {E : Rel α} (hE : Good es d mk E) (hd : d ≤ 8) {h : Heap} {c : List GV} {x : α} {R : List Nat} (he : E h c x R) : bor 9 h (.agg c) = some (.agg (mk x), R) := by
  obtain ⟨ys, a1, a2, a3⟩ := hE.brw he (8 - d)
  rw [show 8 - d + d = 8 by omega] at a1
  show (c.mapM (bor 8 h)).bind _ = _
  rw [a1]
  simp [a2, a3]

theorem RSl.focus {α : Type} {es d : Nat} {mk : α → List GV} {E : Rel α} (hE : Good es d mk E) {h : Heap} {v : GV} {xs : List α} {R : List Nat} (he : RSl es E h [v] xs R) (nd : R.Nodup) {j : Nat} (hj : j < xs.length) :
    ∃ (b : Nat) (css : List (List GV)) (c : List GV) (r : List Nat), v = .sl b 0 xs.length xs.length es ∧ h[b]? = some css.flatten ∧ css.flatten.length = xs.length * es ∧ css.length = xs.length ∧ css[j]? = some c ∧ (∀ c ∈ css, c.length = es) ∧ E h c xs[j] r ∧ b ∉ r ∧ b ∈ R ∧ (∀ i ∈ r, i ∈ R) ∧ r.Nodup ∧
      ∀ h' c' x', h'[b]? = some (css.set j c').flatten → E h' c' x' r → (∀ i ∈ R, i ≠ b → i ∉ r → h'[i]? = h[i]?) → RSl es E h' [v] (xs.set j x') R := by
  rcases he with ⟨rfl, _, _⟩ | ⟨b, css, Rs, hv, hb, ha, rfl⟩
  · cases hj
  · obtain ⟨fl, fe⟩ := All3.flen (fun h => hE.len h) ha
    have key : ∀ {css : List (List GV)} {xs : List α} {Rs : List (List Nat)} (ha : All3 (E h) css xs Rs) (nd : Rs.flatten.Nodup) {j : Nat} (hj : j < xs.length), ∃ (c : List GV) (r : List Nat), css[j]? = some c ∧ E h c xs[j] r ∧ (∀ i ∈ r, i ∈ Rs.flatten) ∧ r.Nodup ∧ ∀ h' c' x', E h' c' x' r → (∀ i ∈ Rs.flatten, i ∉ r → h'[i]? = h[i]?) → All3 (E h') (css.set j c') (xs.set j x') Rs := by
      intro css xs Rs ha
      induction ha with
      | nil => intro _ j hj; cases hj
      | @cons c x r css xs Rs a ha ih =>
        intro nd j hj
        rw [List.flatten_cons, List.nodup_append] at nd
        cases j with
        | zero =>
          refine ⟨c, r, rfl, a, fun i hi => ?_, nd.1, fun h' c' x' he hf => ?_⟩
          · rw [List.flatten_cons]; exact List.mem_append_left _ hi
          · refine .cons he (All3.frame (fun a b => hE.frame a b) ha fun i hi => hf i (by rw [List.flatten_cons]; exact List.mem_append_right _ hi) fun hi' => ?_)
            exact nd.2.2 i hi' i hi rfl
        | succ j =>
          obtain ⟨c0, r0, b1, b2, b3, b4, b5⟩ := ih nd.2.1 (Nat.lt_of_succ_lt_succ hj)
          refine ⟨c0, r0, b1, b2, fun i hi => ?_, b4, fun h' c' x' he hf => ?_⟩
          · rw [List.flatten_cons]; exact List.mem_append_right _ (b3 i hi)
          · refine .cons (hE.frame a fun i hi => hf i (by rw [List.flatten_cons]; exact List.mem_append_left _ hi) fun hi' => nd.2.2 i hi i (b3 i hi') rfl) (b5 h' c' x' he fun i hi hn => hf i (by rw [List.flatten_cons]; exact List.mem_append_right _ hi) hn)
    rw [List.nodup_cons] at nd
    obtain ⟨c, r, b1, b2, b3, b4, b5⟩ := key ha nd.2 hj
    refine ⟨b, css, c, r, by injection hv, hb, fl, ha.len.1, b1, fe, b2, fun h' => nd.1 (b3 b h'), List.mem_cons_self .., fun i hi => List.mem_cons_of_mem _ (b3 i hi), b4, fun h' c' x' hb' he hf => Or.inr ⟨b, css.set j c', Rs, by rw [List.length_set]; exact hv, hb', b5 h' c' x' he fun i hi hn => hf i (List.mem_cons_of_mem _ hi) (fun e => nd.1 (e ▸ hi)) hn, rfl⟩⟩
theorem css_get {es : Nat} : ∀ {css : List (List GV)} {c : List GV} {j off : Nat}, (∀ c ∈ css, c.length = es) → css[j]? = some c → off < es → css.flatten[j * es + off]? = c[off]?
  | [], c, j, off, _, h, _ => by cases h
  | c0 :: css, c, 0, off, hl, h, ho => by
    simp only [List.getElem?_cons_zero, Option.some.injEq] at h
    subst h
    rw [List.flatten_cons, Nat.zero_mul, Nat.zero_add, List.getElem?_append_left (by rw [hl _ (List.mem_cons_self ..)]; exact ho)]
  | c0 :: css, c, j + 1, off, hl, h, ho => by
    rw [List.getElem?_cons_succ] at h
    rw [List.flatten_cons, List.getElem?_append_right (by rw [hl _ (List.mem_cons_self ..), Nat.add_mul]; omega), hl _ (List.mem_cons_self ..)]
    rw [show (j + 1) * es + off - es = j * es + off by rw [Nat.add_mul]; omega]
    exact css_get (fun c hc => hl c (List.mem_cons_of_mem _ hc)) h ho
theorem css_set {es : Nat} : ∀ {css : List (List GV)} {c : List GV} {j off : Nat} {v : GV}, (∀ c ∈ css, c.length = es) → css[j]? = some c → off < es → css.flatten.set (j * es + off) v = (css.set j (c.set off v)).flatten
  | [], c, j, off, v, _, h, _ => by cases h
  | c0 :: css, c, 0, off, v, hl, h, ho => by
    simp only [List.getElem?_cons_zero, Option.some.injEq] at h
    subst h
    rw [List.flatten_cons, Nat.zero_mul, Nat.zero_add, List.set_append_left _ _ (by rw [hl _ (List.mem_cons_self ..)]; exact ho)]
    rfl
  | c0 :: css, c, j + 1, off, v, hl, h, ho => by
    rw [List.getElem?_cons_succ] at h
    rw [List.flatten_cons, List.set_append_right _ _ (by rw [hl _ (List.mem_cons_self ..), Nat.add_mul]; omega), hl _ (List.mem_cons_self ..)]
    rw [show (j + 1) * es + off - es = j * es + off by rw [Nat.add_mul]; omega]
    rw [css_set (fun c hc => hl c (List.mem_cons_of_mem _ hc)) h ho]
    rfl
theorem kadd1 {n : Nat} (h : n ≤ 9223372036854775806) : kbin .add (.int .i64 (n : Int)) (.int .i64 1) = some (.int .i64 ((n + 1 : Nat) : Int)) := by
  rw [kbin_add, wrap_id (by omega) (by omega)]; simp
theorem klt {j n : Nat} : kbin .lss (.int .i64 (j : Int)) (.int .i64 (n : Int)) = some (.bool (decide (j < n))) := by
  rw [kbin_lss]; simp
@[simp] theorem kfa_elf {α : Type} {t : Bool} {mk : α → List GV} {xs : List α} {j o off : Nat} : kfa off (elf t mk xs j o) = some (elf t mk xs j (o + off)) := by
  show some (GV.fp t ((((xs.drop j).flatMap mk).drop o).drop off)) = _
  rw [List.drop_drop]
  rfl
theorem st_leaf {h : Heap} {b es off n o tot j : Nat} {css : List (List GV)} {c : List GV} {x : GV} (hb : h[b]? = some (css.set j c).flatten) (fe : ∀ c ∈ css, c.length = es) (hn : css.length = n) (hj : j < n) (hcl : c.length = es) (ho : off < es) (hx : x.cells = [x]) (hc : x.isCell = true) (ho' : j * es + off = o) (ht : n * es = tot) :
    ∃ h', kstore 1 h (.ptr b o tot) x = some h' ∧ h'[b]? = some (css.set j (c.set off x)).flatten ∧ Fr [b] h h' := by
  have fe' : ∀ c' ∈ css.set j c, c'.length = es := fun c' h' => by
    rcases List.mem_or_eq_of_mem_set h' with h' | rfl
    · exact fe _ h'
    · exact hcl
  have hg : (css.set j c)[j]? = some c := by rw [List.getElem?_set_self (by omega)]
  have fl : ∀ l : List (List GV), (∀ c ∈ l, c.length = es) → l.flatten.length = l.length * es := by
    intro l
    induction l with
    | nil => intro _; simp
    | cons a l ih => intro h; rw [List.flatten_cons, List.length_append, h a (by simp), ih fun c hc => h c (by simp [hc]), List.length_cons, Nat.add_mul]; omega
  have hl : (css.set j c).flatten.length = tot := by rw [fl _ fe', List.length_set, hn, ht]
  have hlt : o < tot := by
    have : (j + 1) * es ≤ n * es := Nat.mul_le_mul_right es hj
    rw [Nat.add_mul] at this; omega
  refine ⟨_, kstore_at hb hl hlt hx hc, ?_, .set (by simp)⟩
  have hlb : b < h.length := (List.getElem?_eq_some_iff.1 hb).1
  rw [List.getElem?_set_self hlb, ← ho', css_set fe' hg ho, List.set_set]
theorem ld_leaf {h : Heap} {b es off n o tot j : Nat} {css : List (List GV)} {c : List GV} (hb : h[b]? = some (css.set j c).flatten) (fe : ∀ c ∈ css, c.length = es) (hn : css.length = n) (hj : j < n) (hcl : c.length = es) (ho : off < es) (ho' : j * es + off = o) (ht : n * es = tot) : kload1 h (.ptr b o tot) = c[off]? := by
  have fe' : ∀ c' ∈ css.set j c, c'.length = es := fun c' h' => by
    rcases List.mem_or_eq_of_mem_set h' with h' | rfl
    · exact fe _ h'
    · exact hcl
  have hg : (css.set j c)[j]? = some c := by rw [List.getElem?_set_self (by omega)]
  have fl : ∀ l : List (List GV), (∀ c ∈ l, c.length = es) → l.flatten.length = l.length * es := by
    intro l
    induction l with
    | nil => intro _; simp
    | cons a l ih => intro h; rw [List.flatten_cons, List.length_append, h a (by simp), ih fun c hc => h c (by simp [hc]), List.length_cons, Nat.add_mul]; omega
  rw [kload1_at hb (by rw [fl _ fe', List.length_set, hn, ht]), ← ho', css_get fe' hg ho]
theorem set_get_self {css : List (List GV)} {c : List GV} {j : Nat} (h : css[j]? = some c) : css.set j c = css := by
  obtain ⟨hj, rfl⟩ := List.getElem?_eq_some_iff.1 h
  exact List.set_getElem_self hj

def markL {α : Type} (m : α → Nat → α) (c : α → Nat) : List α → Nat → List α
  | [], _ => []
  | x :: xs, k => m x k :: markL m c xs (k + c x)
def cntL {α : Type} (c : α → Nat) (xs : List α) : Nat := (xs.map c).sum
theorem markL_len {α : Type} {m : α → Nat → α} {c : α → Nat} : ∀ (xs : List α) (k : Nat), (markL m c xs k).length = xs.length
  | [], _ => rfl
  | x :: xs, k => by unfold markL; rw [List.length_cons, markL_len xs]; rfl
theorem cntL_take {α : Type} {c : α → Nat} {xs : List α} {j : Nat} (hj : j < xs.length) : cntL c (xs.take (j + 1)) = cntL c (xs.take j) + c xs[j] := by
  unfold cntL
  rw [List.take_add_one, List.getElem?_eq_getElem hj, List.map_append, List.sum_append]
  simp
theorem cntL_le {α : Type} {c : α → Nat} {xs : List α} (j : Nat) : cntL c (xs.take j) ≤ cntL c xs := by
  have : cntL c xs = cntL c (xs.take j) + cntL c (xs.drop j) := by
    unfold cntL
    rw [← List.sum_append, ← List.map_append, List.take_append_drop]
  omega
theorem cntL_bound {α : Type} {c : α → Nat} {xs : List α} {B M : Nat} (hl : xs.length ≤ M) (h : ∀ x ∈ xs, c x ≤ B) : cntL c xs ≤ M * B := by
  have : cntL c xs ≤ xs.length * B := by
    clear hl
    unfold cntL
    induction xs with
    | nil => simp
    | cons x xs ih =>
      rw [List.map_cons, List.sum_cons, List.length_cons, Nat.add_mul]
      have := h x (by simp)
      have := ih fun y hy => h y (by simp [hy])
      omega
  exact Nat.le_trans this (Nat.mul_le_mul_right B hl)
theorem cell_of {α : Type} {es : Nat} {E : Rel α} {h : Heap} {v : GV} {xs : List α} {R : List Nat} (he : RSl es E h [v] xs R) : v.cells = [v] ∧ v.isCell = true := by
  rcases he with ⟨_, _, hc⟩ | ⟨_, _, _, hc, _⟩
  · rcases hc with hc | hc <;> (injection hc with hc; subst hc; exact ⟨rfl, rfl⟩)
  · injection hc with hc; subst hc; exact ⟨rfl, rfl⟩
theorem lb_range {a b l : Nat} (h : a ≤ b) : ∀ x ∈ List.range' b l, a ≤ x := fun x hx => by rw [List.mem_range'_1] at hx; omega
theorem lb_nil {a : Nat} : ∀ x ∈ ([] : List Nat), a ≤ x := fun x hx => by cases hx
theorem lb_app {a b l : Nat} {X : List Nat} (h : a ≤ b) (hX : ∀ x ∈ X, a ≤ x) : ∀ x ∈ List.range' b l ++ X, a ≤ x := fun x hx => by
  rcases List.mem_append.1 hx with hx | hx
  · exact lb_range h x hx
  · exact hX x hx
theorem markL_take {α : Type} {m : α → Nat → α} {c : α → Nat} : ∀ (xs : List α) (k j : Nat) (hj : j < xs.length), (markL m c (xs.take j) k ++ xs.drop j).set j (m xs[j] (k + cntL c (xs.take j))) = markL m c (xs.take (j + 1)) k ++ xs.drop (j + 1)
  | x :: xs, k, 0, _ => by
    show m x (k + 0) :: xs = m x k :: xs
    rw [Nat.add_zero]
  | x :: xs, k, j + 1, hj => by
    have := markL_take (m := m) (c := c) xs (k + c x) j (Nat.lt_of_succ_lt_succ hj)
    have e : cntL c ((x :: xs).take (j + 1)) = c x + cntL c (xs.take j) := by unfold cntL; rw [List.take_succ_cons, List.map_cons, List.sum_cons]
    rw [e, ← Nat.add_assoc]
    show m x k :: (markL m c (xs.take j) (k + c x) ++ xs.drop j).set j _ = m x k :: (markL m c (xs.take (j + 1)) (k + c x) ++ xs.drop (j + 1))
    rw [← this]
    rfl
theorem markL_get {α : Type} {m : α → Nat → α} {c : α → Nat} : ∀ (xs : List α) (k j : Nat) (hj : j < xs.length), (markL m c xs k)[j]? = some (m xs[j] (k + cntL c (xs.take j)))
  | x :: xs, k, 0, _ => rfl
  | x :: xs, k, j + 1, hj => by
    have := markL_get (m := m) (c := c) xs (k + c x) j (Nat.lt_of_succ_lt_succ hj)
    have e : cntL c ((x :: xs).take (j + 1)) = c x + cntL c (xs.take j) := by unfold cntL; rw [List.take_succ_cons, List.map_cons, List.sum_cons]
    rw [e, ← Nat.add_assoc]
    exact this
theorem mark_loop {α Q : Type} {es d : Nat} {mk : α → List GV} {E : Rel α} (hE : Good es d mk E) {m : α → Nat → α} {c : α → Nat} {v : GV} {xs : List α} {R : List Nat} {k : Nat} (nd : R.Nodup) {f : Nat → Nat → Nat → Heap → Q} {A : Nat → Heap → Q}
    (h1 : ∀ j r h ys, RSl es E h [v] ys R → (hl : ys.length = xs.length) → (hj : j < xs.length) → ys[j]? = some xs[j] → ∃ h', f (r + 1) j (k + cntL c (xs.take j)) h = f r (j + 1) (k + cntL c (xs.take j) + c xs[j]) h' ∧ RSl es E h' [v] (ys.set j (m xs[j] (k + cntL c (xs.take j)))) R ∧ Fr R h h')
    (h2 : ∀ r h ys, RSl es E h [v] ys R → ys.length = xs.length → f (r + 1) xs.length (k + cntL c xs) h = A (k + cntL c xs) h) :
    ∀ {h : Heap}, RSl es E h [v] xs R → ∀ n, xs.length < n → ∃ h', f n 0 k h = A (k + cntL c xs) h' ∧ RSl es E h' [v] (markL m c xs k) R ∧ Fr R h h' := by
  intro h he n hn
  have key : ∀ n j h, xs.length - j < n → j ≤ xs.length → RSl es E h [v] (markL m c (xs.take j) k ++ xs.drop j) R → ∃ h', f n j (k + cntL c (xs.take j)) h = A (k + cntL c xs) h' ∧ RSl es E h' [v] (markL m c xs k) R ∧ Fr R h h' := by
    intro n
    induction n with
    | zero => intro j h h0; omega
    | succ n ih =>
      intro j h h0 hj he
      have hlen : (markL m c (xs.take j) k ++ xs.drop j).length = xs.length := by rw [List.length_append, markL_len, List.length_take, List.length_drop]; omega
      rcases Nat.lt_or_ge j xs.length with hlt | hge
      · have hget : (markL m c (xs.take j) k ++ xs.drop j)[j]? = some xs[j] := by
          rw [List.getElem?_append_right (by rw [markL_len, List.length_take]; omega), markL_len, List.length_take, List.getElem?_drop]
          rw [show j + (j - min j xs.length) = j by omega]
          exact List.getElem?_eq_getElem hlt
        obtain ⟨h', a1, a2, a3⟩ := h1 j n h _ he hlen hlt hget
        rw [markL_take xs k j hlt] at a2
        rw [Nat.add_assoc, ← cntL_take hlt] at a1
        obtain ⟨h'', b1, b2, b3⟩ := ih (j + 1) h' (by omega) (by omega) a2
        exact ⟨h'', a1.trans b1, b2, a3.trans b3⟩
      · have : j = xs.length := by omega
        subst this
        rw [List.take_length, List.drop_length, List.append_nil] at he
        rw [List.take_length]
        exact ⟨h, h2 n h _ he (markL_len _ _), he, .refl⟩
  have := key n 0 h (by omega) (by omega) (by simpa [markL] using he)
  simpa [cntL] using this
theorem All3.snoc {α : Type} {E : List GV → α → List Nat → Prop} {css : List (List GV)} {xs : List α} {Rs : List (List Nat)} (h : All3 E css xs Rs) {c : List GV} {x : α} {r : List Nat} (he : E c x r) : All3 E (css ++ [c]) (xs ++ [x]) (Rs ++ [r]) := by
  induction h with
  | nil => exact .cons he .nil
  | cons a _ ih => exact .cons a ih
theorem splice_zeros {es n j : Nat} {A c z : List GV} (hA : A.length = j * es) (hc : c.length = es) (hz : z.length = es) (hj : j < n) : splice (A ++ zeros z (n - j)) (j * es) c = A ++ c ++ zeros z (n - (j + 1)) := by
  unfold splice
  rw [List.take_append_of_le_length (by omega), List.take_of_length_le (by omega), hc, ← hA, ← List.drop_drop, List.drop_left]
  rw [show n - j = (n - (j + 1)) + 1 by omega]
  simp only [zeros]
  rw [← hz, List.drop_left]
  
theorem fill_loop {α Q : Type} {es d : Nat} {mk : α → List GV} {E : Rel α} (hE : Good es d mk E) {z : List GV} (hz : z.length = es) {xs : List α} {f : Nat → Nat → Heap → Q} {A : Heap → Q}
    (h1 : ∀ j r cells B, (hj : j < xs.length) → cells.length = xs.length * es → ∃ c bl, c.length = es ∧ (∀ H T, H.length = 1 + B.length → E (H ++ bl ++ T) c xs[j] (List.range' (1 + B.length) bl.length)) ∧ f (r + 1) j (cells :: B) = f r (j + 1) (splice cells (j * es) c :: (B ++ bl)))
    (h2 : ∀ r h, f (r + 1) xs.length h = A h) : ∀ n, xs.length < n → ∃ css B Rs, f n 0 [zeros z xs.length] = A (css.flatten :: B) ∧ All3 (E (css.flatten :: B)) css xs Rs ∧ Rs.flatten = List.range' 1 B.length := by
  intro n hn
  have key : ∀ n j css B Rs, xs.length - j < n → j ≤ xs.length → All3 (E ((css.flatten ++ zeros z (xs.length - j)) :: B)) css (xs.take j) Rs → Rs.flatten = List.range' 1 B.length →
      ∃ css2 B' Rs, f n j ((css.flatten ++ zeros z (xs.length - j)) :: B) = A (css2.flatten :: B') ∧ All3 (E (css2.flatten :: B')) css2 xs Rs ∧ Rs.flatten = List.range' 1 B'.length := by
    intro n
    induction n with
    | zero => intro j css B Rs h0; omega
    | succ n ih =>
      intro j css B Rs h0 hj ha hr
      have fl := (All3.flen (fun h => hE.len h) ha).1
      rw [List.length_take, Nat.min_eq_left hj] at fl
      rcases Nat.lt_or_ge j xs.length with hlt | hge
      · have hlen : (css.flatten ++ zeros z (xs.length - j)).length = xs.length * es := by rw [List.length_append, fl, zeros_len', hz, ← Nat.add_mul]; congr 1; omega
        obtain ⟨c, bl, hc, he, hf⟩ := h1 j n _ B hlt hlen
        rw [splice_zeros fl hc hz hlt] at hf
        have e2 : (css ++ [c]).flatten.length = (j + 1) * es := by simp [fl, hc, Nat.add_mul]
        have e1 : css.flatten ++ c = (css ++ [c]).flatten := by simp
        rw [e1] at hf
        have ha' : All3 (E (((css ++ [c]).flatten ++ zeros z (xs.length - (j + 1))) :: (B ++ bl))) (css ++ [c]) (xs.take (j + 1)) (Rs ++ [List.range' (1 + B.length) bl.length]) := by
          rw [List.take_add_one, List.getElem?_eq_getElem hlt]
          refine All3.snoc (All3.frame (fun a b => hE.frame a b) ha fun i hi => ?_) ?_
          · rw [hr, List.mem_range'] at hi
            obtain ⟨q, hq, rfl⟩ := hi
            rw [show 1 + 1 * q = q + 1 by omega, List.getElem?_cons_succ, List.getElem?_cons_succ, List.getElem?_append_left hq]
          · have := he (((css ++ [c]).flatten ++ zeros z (xs.length - (j + 1))) :: B) [] (by rw [List.length_cons]; omega)
            simpa using this
        have hr' : (Rs ++ [List.range' (1 + B.length) bl.length]).flatten = List.range' 1 (B ++ bl).length := by
          rw [List.flatten_append, hr, List.length_append, ← List.range'_append_1]
          simp
        obtain ⟨css', B', Rs', b1, b2, b3⟩ := ih (j + 1) _ _ _ (by omega) (by omega) ha' hr'
        exact ⟨css', B', Rs', hf.trans b1, b2, b3⟩
      · have : j = xs.length := by omega
        subst this
        rw [Nat.sub_self] at ha ⊢
        simp only [zeros, List.append_nil] at ha ⊢
        rw [List.take_length] at ha
        exact ⟨css, B, Rs, h2 n _, ha, hr⟩
  obtain ⟨css, B', Rs, a1, a2, a3⟩ := key n 0 [] [] [] (by omega) (by omega) .nil rfl
  exact ⟨css, B', Rs, by simpa using a1, a2, a3⟩

theorem Fr.blk {R : List Nat} {H H' : Heap} (f : Fr R H H') {p : Nat} {c : List GV} (h : H[p]? = some c) (hn : p ∉ R) : H'[p]? = some c := (f.2 p (List.getElem?_eq_some_iff.1 h).1 hn).trans h
theorem kalloc_at {Q : Type} {z : List GV} {H : Heap} {K : GV → Heap → Option Q} : kalloc z H K = K (.ptr H.length 0 z.length) (H ++ [z]) := rfl
theorem kloadA_at {H : Heap} {p n : Nat} {c : List GV} (h : H[p]? = some c) (hl : c.length = n) : kloadA n H (.ptr p 0 n) = some (.agg c) := by
  rw [kloadA_ptr, cellsAt_if, h]
  simp [hl]
  rw [List.take_of_length_le (by omega)]
theorem kstoreA_at {H : Heap} {p n : Nat} {c c' : List GV} (h : H[p]? = some c) (hl : c.length = n) (hl' : c'.length = n) (hc : c'.all GV.isCell = true) : kstore n H (.ptr p 0 n) (.agg c') = some (H.set p c') := by
  rw [kstore_ptr, cells_agg, if_pos ⟨hl', hc⟩, cellsAt_if, h]
  simp only [Option.bind_some, hl, if_true]
  rw [if_pos (by omega)]
  simp only [splice, List.take_zero, List.nil_append, Nat.zero_add, hl']
  rw [List.drop_of_length_le (by omega), List.append_nil]
theorem var_at {H : Heap} {z c : List GV} {n : Nat} (hz : z.length = n) (hl : c.length = n) (hc : c.all GV.isCell = true) : kstore n (H ++ [z]) (.ptr H.length 0 n) (.agg c) = some (H ++ [c]) := by
  rw [kstoreA_at (c := z) (by simp) hz hl hc]
  simp
theorem fresh_agg {α : Type} {es d : Nat} {mk : α → List GV} {E : Rel α} (hE : Good es d mk E) {f : FuncId} {args xs : List GV} {H : Heap} {x : α} (hb : bors H args = some xs) (he : ∃ c bl, OO f xs H.length = some (.agg c, bl) ∧ ∀ H' T, H'.length = H.length → E (H' ++ bl ++ T) c x (List.range' H.length bl.length)) :
    ∃ c R H', kF false HH f args H = some (.agg c, H') ∧ E H' c x R ∧ R.Nodup ∧ Bd R H.length H'.length ∧ Fr [] H H' ∧ H.length ≤ H'.length := by
  obtain ⟨c, bl, h1, h2⟩ := he
  refine ⟨c, _, H ++ bl, by rw [kF_OO, hb]; simp [h1], by simpa using h2 H [] rfl, List.nodup_range', fun i hi => ?_, .app, by simp⟩
  rw [List.mem_range'_1] at hi
  simp; omega
theorem fresh_tup {α : Type} {es d : Nat} {mk : α → List GV} {E : Rel α} (hE : Good es d mk E) {f : FuncId} {args xs : List GV} {H : Heap} {x : α} {t : Bool} (hb : bors H args = some xs) (he : ∃ c bl, OO f xs H.length = some (.tup [.agg c, .bool t], bl) ∧ ∀ H' T, H'.length = H.length → E (H' ++ bl ++ T) c x (List.range' H.length bl.length)) :
    ∃ c R H', kF false HH f args H = some (.tup [.agg c, .bool t], H') ∧ E H' c x R ∧ R.Nodup ∧ Bd R H.length H'.length ∧ Fr [] H H' ∧ H.length ≤ H'.length := by
  obtain ⟨c, bl, h1, h2⟩ := he
  refine ⟨c, _, H ++ bl, by rw [kF_OO, hb]; simp [h1], by simpa using h2 H [] rfl, List.nodup_range', fun i hi => ?_, .app, by simp⟩
  rw [List.mem_range'_1] at hi
  simp; omega
theorem bors_agg {α : Type} {es d : Nat} {mk : α → List GV} {E : Rel α} (hE : Good es d mk E) (hd : d ≤ 8) {H : Heap} {c : List GV} {x : α} {R : List Nat} (he : E H c x R) {gs xs : List GV} (h : bors H gs = some xs) : bors H (.agg c :: gs) = some (.agg (mk x) :: xs) := by
  rw [bors_cons, hE.lendS hd he, h]; rfl
theorem kN_at {f : FuncId} {args xs : List GV} {H : Heap} {v : GV} (hb : bors H args = some xs) (h : NN f xs = some v) : kN NN f args H = some v := by rw [kN_eq, hb]; exact h
theorem RSl.focus2 {α : Type} {es d : Nat} {mk : α → List GV} {E : Rel α} (hE : Good es d mk E) {h : Heap} {v : GV} {xs : List α} {R : List Nat} (he : RSl es E h [v] xs R) (nd : R.Nodup) {j : Nat} (hj : j < xs.length) :
    ∃ (b : Nat) (css : List (List GV)) (c : List GV) (r : List Nat), v = .sl b 0 xs.length xs.length es ∧ h[b]? = some css.flatten ∧ css.length = xs.length ∧ css[j]? = some c ∧ (∀ c ∈ css, c.length = es) ∧ E h c xs[j] r ∧ b ∉ r ∧ b ∈ R ∧ (∀ i ∈ r, i ∈ R) ∧ r.Nodup ∧
      ∀ h' c' x' r', h'[b]? = some (css.set j c').flatten → E h' c' x' r' → r'.Nodup → (∀ i ∈ r', i ∈ r ∨ i ∉ R) → (∀ i ∈ R, i ≠ b → i ∉ r → h'[i]? = h[i]?) → ∃ R', RSl es E h' [v] (xs.set j x') R' ∧ R'.Nodup ∧ ∀ i ∈ R', i ∈ R ∨ i ∈ r' := by
  rcases he with ⟨rfl, _, _⟩ | ⟨b, css, Rs, hv, hb, ha, rfl⟩
  · cases hj
  · obtain ⟨fl, fe⟩ := All3.flen (fun h => hE.len h) ha
    have key : ∀ {css : List (List GV)} {xs : List α} {Rs : List (List Nat)} (ha : All3 (E h) css xs Rs) (nd : Rs.flatten.Nodup) {j : Nat} (hj : j < xs.length), ∃ (c : List GV) (r : List Nat), css[j]? = some c ∧ E h c xs[j] r ∧ (∀ i ∈ r, i ∈ Rs.flatten) ∧ r.Nodup ∧
        ∀ h' c' x' r', E h' c' x' r' → r'.Nodup → (∀ i ∈ r', i ∈ r ∨ i ∉ Rs.flatten) → (∀ i ∈ Rs.flatten, i ∉ r → h'[i]? = h[i]?) → ∃ Rs', All3 (E h') (css.set j c') (xs.set j x') Rs' ∧ Rs'.flatten.Nodup ∧ ∀ i ∈ Rs'.flatten, i ∈ Rs.flatten ∨ i ∈ r' := by
      intro css xs Rs ha
      induction ha with
      | nil => intro _ j hj; cases hj
      | @cons c x r css xs Rs a ha ih =>
        intro nd j hj
        rw [List.flatten_cons, List.nodup_append] at nd
        cases j with
        | zero =>
          refine ⟨c, r, rfl, a, fun i hi => ?_, nd.1, fun h' c' x' r' he hn hs hf => ⟨r' :: Rs, ?_, ?_, ?_⟩⟩
          · rw [List.flatten_cons]; exact List.mem_append_left _ hi
          · refine .cons he (All3.frame (fun a b => hE.frame a b) ha fun i hi => hf i (by rw [List.flatten_cons]; exact List.mem_append_right _ hi) fun hi' => ?_)
            exact nd.2.2 i hi' i hi rfl
          · rw [List.flatten_cons, List.nodup_append]
            refine ⟨hn, nd.2.1, fun i hi k hk e => ?_⟩
            subst e
            rcases hs i hi with h1 | h1
            · exact nd.2.2 i h1 i hk rfl
            · exact h1 (by rw [List.flatten_cons]; exact List.mem_append_right _ hk)
          · intro i hi
            rw [List.flatten_cons] at hi ⊢
            rcases List.mem_append.1 hi with hi | hi
            · exact Or.inr hi
            · exact Or.inl (List.mem_append_right _ hi)
        | succ j =>
          obtain ⟨c0, r0, b1, b2, b3, b4, b5⟩ := ih nd.2.1 (Nat.lt_of_succ_lt_succ hj)
          refine ⟨c0, r0, b1, b2, fun i hi => ?_, b4, fun h' c' x' r' he hn hs hf => ?_⟩
          · rw [List.flatten_cons]; exact List.mem_append_right _ (b3 i hi)
          · obtain ⟨Rs', q1, q2, q3⟩ := b5 h' c' x' r' he hn (fun i hi => (hs i hi).imp id fun h1 h2 => h1 (by rw [List.flatten_cons]; exact List.mem_append_right _ h2)) (fun i hi hn => hf i (by rw [List.flatten_cons]; exact List.mem_append_right _ hi) hn)
            refine ⟨r :: Rs', .cons (hE.frame a fun i hi => hf i (by rw [List.flatten_cons]; exact List.mem_append_left _ hi) fun hi' => nd.2.2 i hi i (b3 i hi') rfl) q1, ?_, ?_⟩
            · rw [List.flatten_cons, List.nodup_append]
              refine ⟨nd.1, q2, fun i hi k hk e => ?_⟩
              subst e
              rcases q3 i hk with h1 | h1
              · exact nd.2.2 i hi i h1 rfl
              · rcases hs i h1 with h2 | h2
                · exact nd.2.2 i hi i (b3 i h2) rfl
                · exact h2 (by rw [List.flatten_cons]; exact List.mem_append_left _ hi)
            · intro i hi
              rw [List.flatten_cons] at hi ⊢
              rcases List.mem_append.1 hi with hi | hi
              · exact Or.inl (List.mem_append_left _ hi)
              · exact (q3 i hi).imp (fun h => List.mem_append_right _ h) id
    rw [List.nodup_cons] at nd
    obtain ⟨c, r, b1, b2, b3, b4, b5⟩ := key ha nd.2 hj
    refine ⟨b, css, c, r, by injection hv, hb, ha.len.1, b1, fe, b2, fun h' => nd.1 (b3 b h'), List.mem_cons_self .., fun i hi => List.mem_cons_of_mem _ (b3 i hi), b4, fun h' c' x' r' hb' he hn hs hf => ?_⟩
    obtain ⟨Rs', q1, q2, q3⟩ := b5 h' c' x' r' he hn (fun i hi => (hs i hi).imp id fun h1 h2 => h1 (List.mem_cons_of_mem _ h2)) fun i hi hn => hf i (List.mem_cons_of_mem _ hi) (fun e => nd.1 (e ▸ hi)) hn
    refine ⟨b :: Rs'.flatten, Or.inr ⟨b, css.set j c', Rs', by rw [List.length_set]; exact hv, hb', q1, rfl⟩, ?_, fun i hi => ?_⟩
    · rw [List.nodup_cons]
      refine ⟨fun hi => ?_, q2⟩
      rcases q3 b hi with h1 | h1
      · exact nd.1 h1
      · rcases hs b h1 with h2 | h2
        · exact nd.1 (b3 b h2)
        · exact h2 (List.mem_cons_self ..)
    · rcases List.mem_cons.1 hi with rfl | hi
      · exact Or.inl (List.mem_cons_self ..)
      · exact (q3 i hi).imp (fun h => List.mem_cons_of_mem _ h) id

theorem app_sl {α : Type} {es d b : Nat} {mk : α → List GV} {E : Rel α} (hE : Good es d mk E) (h0 : 0 < es) {z : List GV} (hz : z.length = es) (hb : b ≤ 1024) {H : Heap} {v : GV} {xs : List α} {R : List Nat} (he : RSl es E H [v] xs R) (nd : R.Nodup) (hn : xs.length ≤ 4194304)
    {cx : List GV} {x : α} {Rx : List Nat} (hx : E H cx x Rx) (nx : Rx.Nodup) (hd : ∀ i ∈ Rx, i ∉ R) {q : Nat} (hq : H[q]? = some cx) :
    ∃ v' H' R', kapp z es b v (.sl q 0 1 1 es) H = some (v', H') ∧ RSl es E H' [v'] (xs ++ [x]) R' ∧ R'.Nodup ∧ (∀ i ∈ R', i ∈ R ∨ i ∈ Rx ∨ i = H.length) ∧ Fr R H H' ∧ (v'.cells = [v'] ∧ v'.isCell = true) ∧ ((∃ i, v = .sl i 0 xs.length xs.length es ∧ i ∈ R ∧ H'.length = H.length ∧ kblk v = [i]) ∨ (kblk v = [] ∧ H' = H ++ [cx])) := by
  have hcl := hE.len hx
  have hcc := hE.cell hx
  have hg : gcells H es (.sl q 0 1 1 es) = some (1, cx, [q]) := by
    unfold gcells
    simp [hq, hcl]
    rw [List.take_of_length_le (by omega)]
  have h2 : 1 * b ≤ roomMax := by simp only [roomMax]; omega
  rcases he with ⟨rfl, rfl, hc⟩ | ⟨i, css, Rs, hv, hi, ha, rfl⟩
  · have hE' : E (H ++ [cx]) cx x Rx := hE.grow hx
    refine ⟨.sl H.length 0 1 1 es, H ++ [cx], H.length :: Rx, ?_, Or.inr ⟨H.length, [cx], [Rx], rfl, by simp, .cons hE' .nil, by simp⟩, ?_, ?_, .app, ⟨rfl, rfl⟩, Or.inr ⟨?_, rfl⟩⟩
    · unfold kapp
      rw [hg]
      simp only [Option.bind_some]
      rw [if_pos ⟨hcc, hz, by simp only [maxLen]; omega, h2⟩]
      rcases hc with hc | hc <;> (injection hc with hc; subst hc; rfl)
    · rw [List.nodup_cons]
      exact ⟨fun h => by have := hE.mem hx _ h; omega, nx⟩
    · intro k hk
      rcases List.mem_cons.1 hk with rfl | hk
      · exact Or.inr (Or.inr rfl)
      · exact Or.inr (Or.inl hk)
    · rcases hc with hc | hc <;> (injection hc with hc; subst hc; rfl)
  · injection hv with hv
    obtain ⟨fl, fe⟩ := All3.flen (fun h => hE.len h) ha
    rw [List.nodup_cons] at nd
    have hir : i ∉ Rx := fun h => hd i h (List.mem_cons_self ..)
    have hil := (List.getElem?_eq_some_iff.1 hi).1
    have e1 : (css ++ [cx]).flatten = css.flatten ++ cx := by simp
    refine ⟨.sl i 0 (xs.length + 1) (xs.length + 1) es, H.set i (css ++ [cx]).flatten, i :: (Rs.flatten ++ Rx), ?_, Or.inr ⟨i, css ++ [cx], Rs ++ [Rx], by rw [List.length_append]; rfl, ?_, ?_, by simp⟩, ?_, ?_, .set (List.mem_cons_self ..), ⟨rfl, rfl⟩, Or.inl ⟨i, hv, List.mem_cons_self .., by rw [List.length_set], by rw [hv]; rfl⟩⟩
    · rw [hv]
      have h1 : (xs.length + 1) * b ≤ 4194305 * 1024 := Nat.mul_le_mul (by omega) hb
      unfold kapp
      rw [hg]
      simp only [Option.bind_some]
      rw [if_pos ⟨hcc, hz, by simp only [maxLen]; omega, h2⟩]
      simp only [Nat.zero_add, cellsAt_if, hi, Option.bind_some, fl, if_true]
      rw [if_pos ⟨trivial, Nat.le_refl _, by simp only [roomMax]; omega, by simp only [maxLen]; omega⟩, if_neg (by omega), if_pos ⟨trivial, h0⟩, List.take_of_length_le (by omega), e1]
    · rw [List.getElem?_set_self hil]
    · refine All3.snoc (All3.frame (fun a b => hE.frame a b) ha fun k hk => List.getElem?_set_ne fun e => nd.1 (by rw [e]; exact hk)) (hE.frame hx fun k hk => List.getElem?_set_ne fun e => hir (by rw [e]; exact hk))
    · rw [List.nodup_cons, List.nodup_append, List.mem_append]
      exact ⟨fun h => h.elim nd.1 hir, nd.2, nx, fun a ha b hb e => hd b hb (List.mem_cons_of_mem _ (e ▸ ha))⟩
    · intro k hk
      rcases List.mem_cons.1 hk with rfl | hk
      · exact Or.inl (List.mem_cons_self ..)
      · rcases List.mem_append.1 hk with hk | hk
        · exact Or.inl (List.mem_cons_of_mem _ hk)
        · exact Or.inr (Or.inl hk)
theorem kbs_at {Q : Type} {len es : Nat} {c : List GV} {H : Heap} {K : GV → Heap → Option Q} : kbs len es c H K = K (.sl H.length 0 len len es) (H ++ [c]) := rfl
theorem push {α : Type} {es d b : Nat} {mk : α → List GV} {E : Rel α} (hE : Good es d mk E) (h0 : 0 < es) {z : List GV} (hz : z.length = es) (hb : b ≤ 1024) {H : Heap} {v : GV} {xs : List α} {R : List Nat} (he : RSl es E H [v] xs R) (nd : R.Nodup) (hn : xs.length ≤ 4194304)
    {cx : List GV} {x : α} {Rx : List Nat} (hx : E H cx x Rx) (nx : Rx.Nodup) (hd : ∀ i ∈ Rx, i ∉ R) {p o n : Nat} {C : List GV} (hp : H[p]? = some C) (hC : C.length = n) (ho : o < n) (hpR : p ∉ R) (hpx : p ∉ Rx) :
    ∃ v' H4 H5 R', kapp z es b v (.sl H.length 0 1 1 es) (H ++ [cx]) = some (v', H4) ∧ kstore 1 H4 (.ptr p o n) v' = some H5 ∧ RSl es E H5 [v'] (xs ++ [x]) R' ∧ R'.Nodup ∧ (∀ i ∈ R', i ∈ R ∨ i ∈ Rx ∨ H.length ≤ i) ∧ H5[p]? = some (C.set o v') ∧ Fr (p :: R) H H5 := by
  have hpl := (List.getElem?_eq_some_iff.1 hp).1
  have hm := (RSl.good hE).mem he
  obtain ⟨v', H4, R', a1, a2, a3, a4, a5, a6, _⟩ := app_sl hE h0 hz hb (H := H ++ [cx]) ((RSl.good hE).grow he) nd hn (hE.grow hx) nx hd (q := H.length) (by simp)
  have hp4 : H4[p]? = some C := a5.blk (by rw [List.getElem?_append_left hpl]; exact hp) hpR
  have hpl4 := (List.getElem?_eq_some_iff.1 hp4).1
  have hpR' : p ∉ R' := fun h => by
    rcases a4 p h with h | h | h
    · exact hpR h
    · exact hpx h
    · rw [List.length_append] at h; simp at h; omega
  refine ⟨v', H4, H4.set p (C.set o v'), R', a1, kstore_at hp4 hC ho a6.1 a6.2, (RSl.good hE).keep a2 (.set (R := [p]) (by simp)) (fun i hi h => hpR' (by rw [List.mem_singleton] at h; rw [← h]; exact hi)), a3, fun i hi => ?_, List.getElem?_set_self hpl4, ?_⟩
  · rcases a4 i hi with h | h | h
    · exact Or.inl h
    · exact Or.inr (Or.inl h)
    · rw [List.length_append] at h; simp at h; exact Or.inr (Or.inr (by omega))
  · exact (Fr.app (t := [cx])).trans ((a5.sub (fun i hi => List.mem_cons_of_mem _ hi)).trans (.set (List.mem_cons_self ..)))
end Go.Proofs.Ytlbnioapepelnaa.G
