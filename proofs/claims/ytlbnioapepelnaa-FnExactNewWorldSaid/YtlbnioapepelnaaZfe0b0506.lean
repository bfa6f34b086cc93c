/- Data laid into memory: which blocks they have, how they are lent and handed over, how one place of them is changed; what stays as it was in laws that mark. What these functions do, told for open values, out of the machine with continuations. Printed by a program of this session. Ranges, runes, widths, styles; loops that leave early. -/
import Derived.Test.YtlbnioapepelnaaZeb0e6002
import Derived.KernelRfl
namespace Go.Proofs.Ytlbnioapepelnaa.G
open Go.RowKit
set_option linter.unusedVariables false
set_option linter.unusedSimpArgs false

/-- .. a struct. -/
theorem Good.finS {α : Type} {es d : Nat} {mk : α → List GV} {E : Rel α} (hE : Good es d mk E) (hd : d ≤ 8) {h : Heap} {c : List GV} {x : α} {R : List Nat} (he : E h c x R) (nd : R.Nodup) (b : Nat) : ∃ c' bl, finO b (.agg c) h = some (.agg c', bl) ∧ ∀ H T, H.length = b → E (H ++ bl ++ T) c' x (List.range' b bl.length) := by
  obtain ⟨c', vis, bl, a1, a2, a3⟩ := hE.own he (8 - d) b
  rw [show 8 - d + d = 8 by omega] at a1
  refine ⟨c', bl, ?_, a3⟩
  unfold finO ownOk
  have e : Go.Proofs.Ytlbnioapepelnaa.G.own 9 h b (.agg c) = some (.agg c', vis, bl) := by
    show (ownL (Go.Proofs.Ytlbnioapepelnaa.G.own 8 h) b c).bind _ = _
    rw [a1]; rfl
  simp only [e, Option.bind_some, a2, nodupB_of nd, cond_true]
/-- .. a struct and a truth. -/
theorem Good.finT {α : Type} {es d : Nat} {mk : α → List GV} {E : Rel α} (hE : Good es d mk E) (hd : d ≤ 7) {h : Heap} {c : List GV} {x : α} {R : List Nat} {t : Bool} (he : E h c x R) (nd : R.Nodup) (b : Nat) : ∃ c' bl, finO b (.tup [.agg c, .bool t]) h = some (.tup [.agg c', .bool t], bl) ∧ ∀ H T, H.length = b → E (H ++ bl ++ T) c' x (List.range' b bl.length) := by
  obtain ⟨c', vis, bl, a1, a2, a3⟩ := hE.own he (7 - d) b
  rw [show 7 - d + d = 7 by omega] at a1
  refine ⟨c', bl, ?_, a3⟩
  unfold finO ownOk
  have e : Go.Proofs.Ytlbnioapepelnaa.G.own 9 h b (.tup [.agg c, .bool t]) = some (.tup [.agg c', .bool t], vis, bl) := by
    show (ownL (Go.Proofs.Ytlbnioapepelnaa.G.own 8 h) b [.agg c, .bool t]).bind _ = _
    have e1 : Go.Proofs.Ytlbnioapepelnaa.G.own 8 h b (.agg c) = some (.agg c', vis, bl) := by
      show (ownL (Go.Proofs.Ytlbnioapepelnaa.G.own 7 h) b c).bind _ = _
      rw [a1]; rfl
    unfold ownL
    rw [e1]
    simp [ownL, Go.Proofs.Ytlbnioapepelnaa.G.own]
  simp only [e, Option.bind_some, a2, nodupB_of nd, cond_true]
theorem Good.lendS {α : Type} {es d : Nat} {mk : α → List GV} {E : Rel α} (hE : Good es d mk E) (hd : d ≤ 8) {h : Heap} {c : List GV} {x : α} {R : List Nat} (he : E h c x R) : bor 9 h (.agg c) = some (.agg (mk x), R) := by
  obtain ⟨ys, a1, a2, a3⟩ := hE.brw he (8 - d)
  rw [show 8 - d + d = 8 by omega] at a1
  show (c.mapM (bor 8 h)).bind _ = _
  rw [a1]
  simp [a2, a3]

/-- One element of a slice: what it is, and how the slice is when it is changed. -/
theorem RSl.focus {α : Type} {es d : Nat} {mk : α → List GV} {E : Rel α} (hE : Good es d mk E) {h : Heap} {v : GV} {xs : List α} {R : List Nat} (he : RSl es E h [v] xs R) (nd : R.Nodup) {j : Nat} (hj : j < xs.length) :
    ∃ (b : Nat) (css : List (List GV)) (c : List GV) (r : List Nat), v = .sl b 0 xs.length xs.length es ∧ h[b]? = some css.flatten ∧ css.flatten.length = xs.length * es ∧ css.length = xs.length ∧ css[j]? = some c ∧ (∀ c ∈ css, c.length = es) ∧ E h c xs[j] r ∧ b ∉ r ∧ b ∈ R ∧ (∀ i ∈ r, i ∈ R) ∧ r.Nodup ∧
      ∀ h' c' x', h'[b]? = some (css.set j c').flatten → E h' c' x' r → (∀ i ∈ R, i ≠ b → i ∉ r → h'[i]? = h[i]?) → RSl es E h' [v] (xs.set j x') R := by
  rcases he with ⟨rfl, _, _⟩ | ⟨b, css, Rs, hv, hb, ha, rfl⟩
  · cases hj
  · obtain ⟨fl, fe⟩ := All3.flen (fun h => hE.len h) ha
    have key : ∀ {css : List (List GV)} {xs : List α} {Rs : List (List Nat)} (ha : All3 (E h) css xs Rs) (nd : Rs.flatten.Nodup) {j : Nat} (hj : j < xs.length), ∃ (c : List GV) (r : List Nat), css[j]? = some c ∧ E h c xs[j] r ∧ (∀ i ∈ r, i ∈ Rs.flatten) ∧ r.Nodup ∧ ∀ h' c' x', E h' c' x' r → (∀ i ∈ Rs.flatten, i ∉ r → h'[i]? = h[i]?) → All3 (E h') (css.set j c') (xs.set j x') Rs := by
      intro css xs Rs ha
      induction ha with
      | nil => intro _ j hj; cases hj
      | @cons c x r css xs Rs a ha ih =>
        intro nd j hj
        rw [List.flatten_cons, List.nodup_append] at nd
        cases j with
        | zero =>
          refine ⟨c, r, rfl, a, fun i hi => ?_, nd.1, fun h' c' x' he hf => ?_⟩
          · rw [List.flatten_cons]; exact List.mem_append_left _ hi
          · refine .cons he (All3.frame (fun a b => hE.frame a b) ha fun i hi => hf i (by rw [List.flatten_cons]; exact List.mem_append_right _ hi) fun hi' => ?_)
            exact nd.2.2 i hi' i hi rfl
        | succ j =>
          obtain ⟨c0, r0, b1, b2, b3, b4, b5⟩ := ih nd.2.1 (Nat.lt_of_succ_lt_succ hj)
          refine ⟨c0, r0, b1, b2, fun i hi => ?_, b4, fun h' c' x' he hf => ?_⟩
          · rw [List.flatten_cons]; exact List.mem_append_right _ (b3 i hi)
          · refine .cons (hE.frame a fun i hi => hf i (by rw [List.flatten_cons]; exact List.mem_append_left _ hi) fun hi' => nd.2.2 i hi i (b3 i hi') rfl) (b5 h' c' x' he fun i hi hn => hf i (by rw [List.flatten_cons]; exact List.mem_append_right _ hi) hn)
    rw [List.nodup_cons] at nd
    obtain ⟨c, r, b1, b2, b3, b4, b5⟩ := key ha nd.2 hj
    refine ⟨b, css, c, r, by injection hv, hb, fl, ha.len.1, b1, fe, b2, fun h' => nd.1 (b3 b h'), List.mem_cons_self .., fun i hi => List.mem_cons_of_mem _ (b3 i hi), b4, fun h' c' x' hb' he hf => Or.inr ⟨b, css.set j c', Rs, by rw [List.length_set]; exact hv, hb', b5 h' c' x' he fun i hi hn => hf i (List.mem_cons_of_mem _ hi) (fun e => nd.1 (e ▸ hi)) hn, rfl⟩⟩
/-- Cells of one element within all. -/
theorem css_get {es : Nat} : ∀ {css : List (List GV)} {c : List GV} {j off : Nat}, (∀ c ∈ css, c.length = es) → css[j]? = some c → off < es → css.flatten[j * es + off]? = c[off]?
  | [], c, j, off, _, h, _ => by cases h
  | c0 :: css, c, 0, off, hl, h, ho => by
    simp only [List.getElem?_cons_zero, Option.some.injEq] at h
    subst h
    rw [List.flatten_cons, Nat.zero_mul, Nat.zero_add, List.getElem?_append_left (by rw [hl _ (List.mem_cons_self ..)]; exact ho)]
  | c0 :: css, c, j + 1, off, hl, h, ho => by
    rw [List.getElem?_cons_succ] at h
    rw [List.flatten_cons, List.getElem?_append_right (by rw [hl _ (List.mem_cons_self ..), Nat.add_mul]; omega), hl _ (List.mem_cons_self ..)]
    rw [show (j + 1) * es + off - es = j * es + off by rw [Nat.add_mul]; omega]
    exact css_get (fun c hc => hl c (List.mem_cons_of_mem _ hc)) h ho
theorem css_set {es : Nat} : ∀ {css : List (List GV)} {c : List GV} {j off : Nat} {v : GV}, (∀ c ∈ css, c.length = es) → css[j]? = some c → off < es → css.flatten.set (j * es + off) v = (css.set j (c.set off v)).flatten
  | [], c, j, off, v, _, h, _ => by cases h
  | c0 :: css, c, 0, off, v, hl, h, ho => by
    simp only [List.getElem?_cons_zero, Option.some.injEq] at h
    subst h
    rw [List.flatten_cons, Nat.zero_mul, Nat.zero_add, List.set_append_left _ _ (by rw [hl _ (List.mem_cons_self ..)]; exact ho)]
    rfl
  | c0 :: css, c, j + 1, off, v, hl, h, ho => by
    rw [List.getElem?_cons_succ] at h
    rw [List.flatten_cons, List.set_append_right _ _ (by rw [hl _ (List.mem_cons_self ..), Nat.add_mul]; omega), hl _ (List.mem_cons_self ..)]
    rw [show (j + 1) * es + off - es = j * es + off by rw [Nat.add_mul]; omega]
    rw [css_set (fun c hc => hl c (List.mem_cons_of_mem _ hc)) h ho]
    rfl
theorem kadd1 {n : Nat} (h : n ≤ 9223372036854775806) : kbin .add (.int .i64 (n : Int)) (.int .i64 1) = some (.int .i64 ((n + 1 : Nat) : Int)) := by
  rw [kbin_add, wrap_id (by omega) (by omega)]; simp
theorem klt {j n : Nat} : kbin .lss (.int .i64 (j : Int)) (.int .i64 (n : Int)) = some (.bool (decide (j < n))) := by
  rw [kbin_lss]; simp
@[simp] theorem kfa_elf {α : Type} {t : Bool} {mk : α → List GV} {xs : List α} {j o off : Nat} : kfa off (elf t mk xs j o) = some (elf t mk xs j (o + off)) := by
  show some (GV.fp t ((((xs.drop j).flatMap mk).drop o).drop off)) = _
  rw [List.drop_drop]
  rfl
theorem krem3 {n : Nat} : kbin .rem (.int .i64 (n : Int)) (.int .i64 3) = some (.int .i64 ((n % 3 : Nat) : Int)) := by
  rw [kbin_rem (by omega), Int.tmod_eq_emod_of_nonneg (by omega)]; rfl
theorem kdec3 {n : Nat} : decide ((n : Int) % 3 = 0) = decide (n % 3 = 0) := by
  rw [Bool.eq_iff_iff, decide_eq_true_eq, decide_eq_true_eq]
  omega
theorem keq0 {n : Nat} : kbin .eql (.int .i64 (n : Int)) (.int .i64 0) = some (.bool (decide (n = 0))) := by
  rw [kbin_eql]
  congr 2
  rw [Bool.eq_iff_iff, decide_eq_true_eq, decide_eq_true_eq]
  omega
/-- One leaf of an element is written. -/
theorem st_leaf {h : Heap} {b es off n o tot j : Nat} {css : List (List GV)} {c : List GV} {x : GV} (hb : h[b]? = some (css.set j c).flatten) (fe : ∀ c ∈ css, c.length = es) (hn : css.length = n) (hj : j < n) (hcl : c.length = es) (ho : off < es) (hx : x.cells = [x]) (hc : x.isCell = true) (ho' : j * es + off = o) (ht : n * es = tot) :
    ∃ h', kstore 1 h (.ptr b o tot) x = some h' ∧ h'[b]? = some (css.set j (c.set off x)).flatten ∧ Fr [b] h h' := by
  have fe' : ∀ c' ∈ css.set j c, c'.length = es := fun c' h' => by
    rcases List.mem_or_eq_of_mem_set h' with h' | rfl
    · exact fe _ h'
    · exact hcl
  have hg : (css.set j c)[j]? = some c := by rw [List.getElem?_set_self (by omega)]
  have fl : ∀ l : List (List GV), (∀ c ∈ l, c.length = es) → l.flatten.length = l.length * es := by
    intro l
    induction l with
    | nil => intro _; simp
    | cons a l ih => intro h; rw [List.flatten_cons, List.length_append, h a (by simp), ih fun c hc => h c (by simp [hc]), List.length_cons, Nat.add_mul]; omega
  have hl : (css.set j c).flatten.length = tot := by rw [fl _ fe', List.length_set, hn, ht]
  have hlt : o < tot := by
    have : (j + 1) * es ≤ n * es := Nat.mul_le_mul_right es hj
    rw [Nat.add_mul] at this; omega
  refine ⟨_, kstore_at hb hl hlt hx hc, ?_, .set (by simp)⟩
  have hlb : b < h.length := (List.getElem?_eq_some_iff.1 hb).1
  rw [List.getElem?_set_self hlb, ← ho', css_set fe' hg ho, List.set_set]
/-- One leaf of an element is read. -/
theorem ld_leaf {h : Heap} {b es off n o tot j : Nat} {css : List (List GV)} {c : List GV} (hb : h[b]? = some (css.set j c).flatten) (fe : ∀ c ∈ css, c.length = es) (hn : css.length = n) (hj : j < n) (hcl : c.length = es) (ho : off < es) (ho' : j * es + off = o) (ht : n * es = tot) : kload1 h (.ptr b o tot) = c[off]? := by
  have fe' : ∀ c' ∈ css.set j c, c'.length = es := fun c' h' => by
    rcases List.mem_or_eq_of_mem_set h' with h' | rfl
    · exact fe _ h'
    · exact hcl
  have hg : (css.set j c)[j]? = some c := by rw [List.getElem?_set_self (by omega)]
  have fl : ∀ l : List (List GV), (∀ c ∈ l, c.length = es) → l.flatten.length = l.length * es := by
    intro l
    induction l with
    | nil => intro _; simp
    | cons a l ih => intro h; rw [List.flatten_cons, List.length_append, h a (by simp), ih fun c hc => h c (by simp [hc]), List.length_cons, Nat.add_mul]; omega
  rw [kload1_at hb (by rw [fl _ fe', List.length_set, hn, ht]), ← ho', css_get fe' hg ho]
theorem set_get_self {css : List (List GV)} {c : List GV} {j : Nat} (h : css[j]? = some c) : css.set j c = css := by
  obtain ⟨hj, rfl⟩ := List.getElem?_eq_some_iff.1 h
  exact List.set_getElem_self hj

/-- Marks, element by element. -/
def markL {α : Type} (m : α → Nat → α) (c : α → Nat) : List α → Nat → List α
  | [], _ => []
  | x :: xs, k => m x k :: markL m c xs (k + c x)
def cntL {α : Type} (c : α → Nat) (xs : List α) : Nat := (xs.map c).sum
theorem markL_len {α : Type} {m : α → Nat → α} {c : α → Nat} : ∀ (xs : List α) (k : Nat), (markL m c xs k).length = xs.length
  | [], _ => rfl
  | x :: xs, k => by unfold markL; rw [List.length_cons, markL_len xs]; rfl
theorem cntL_take {α : Type} {c : α → Nat} {xs : List α} {j : Nat} (hj : j < xs.length) : cntL c (xs.take (j + 1)) = cntL c (xs.take j) + c xs[j] := by
  unfold cntL
  rw [List.take_add_one, List.getElem?_eq_getElem hj, List.map_append, List.sum_append]
  simp
theorem cntL_le {α : Type} {c : α → Nat} {xs : List α} (j : Nat) : cntL c (xs.take j) ≤ cntL c xs := by
  have : cntL c xs = cntL c (xs.take j) + cntL c (xs.drop j) := by
    unfold cntL
    rw [← List.sum_append, ← List.map_append, List.take_append_drop]
  omega
theorem cntL_bound {α : Type} {c : α → Nat} {xs : List α} {B M : Nat} (hl : xs.length ≤ M) (h : ∀ x ∈ xs, c x ≤ B) : cntL c xs ≤ M * B := by
  have : cntL c xs ≤ xs.length * B := by
    clear hl
    unfold cntL
    induction xs with
    | nil => simp
    | cons x xs ih =>
      rw [List.map_cons, List.sum_cons, List.length_cons, Nat.add_mul]
      have := h x (by simp)
      have := ih fun y hy => h y (by simp [hy])
      omega
  exact Nat.le_trans this (Nat.mul_le_mul_right B hl)
theorem cell_of {α : Type} {es : Nat} {E : Rel α} {h : Heap} {v : GV} {xs : List α} {R : List Nat} (he : RSl es E h [v] xs R) : v.cells = [v] ∧ v.isCell = true := by
  rcases he with ⟨_, _, hc⟩ | ⟨_, _, _, hc, _⟩
  · rcases hc with hc | hc <;> (injection hc with hc; subst hc; exact ⟨rfl, rfl⟩)
  · injection hc with hc; subst hc; exact ⟨rfl, rfl⟩
theorem lb_range {a b l : Nat} (h : a ≤ b) : ∀ x ∈ List.range' b l, a ≤ x := fun x hx => by rw [List.mem_range'_1] at hx; omega
theorem lb_nil {a : Nat} : ∀ x ∈ ([] : List Nat), a ≤ x := fun x hx => by cases hx
theorem lb_app {a b l : Nat} {X : List Nat} (h : a ≤ b) (hX : ∀ x ∈ X, a ≤ x) : ∀ x ∈ List.range' b l ++ X, a ≤ x := fun x hx => by
  rcases List.mem_append.1 hx with hx | hx
  · exact lb_range h x hx
  · exact hX x hx
theorem markL_take {α : Type} {m : α → Nat → α} {c : α → Nat} : ∀ (xs : List α) (k j : Nat) (hj : j < xs.length), (markL m c (xs.take j) k ++ xs.drop j).set j (m xs[j] (k + cntL c (xs.take j))) = markL m c (xs.take (j + 1)) k ++ xs.drop (j + 1)
  | x :: xs, k, 0, _ => by
    show m x (k + 0) :: xs = m x k :: xs
    rw [Nat.add_zero]
  | x :: xs, k, j + 1, hj => by
    have := markL_take (m := m) (c := c) xs (k + c x) j (Nat.lt_of_succ_lt_succ hj)
    have e : cntL c ((x :: xs).take (j + 1)) = c x + cntL c (xs.take j) := by unfold cntL; rw [List.take_succ_cons, List.map_cons, List.sum_cons]
    rw [e, ← Nat.add_assoc]
    show m x k :: (markL m c (xs.take j) (k + c x) ++ xs.drop j).set j _ = m x k :: (markL m c (xs.take (j + 1)) (k + c x) ++ xs.drop (j + 1))
    rw [← this]
    rfl
theorem markL_get {α : Type} {m : α → Nat → α} {c : α → Nat} : ∀ (xs : List α) (k j : Nat) (hj : j < xs.length), (markL m c xs k)[j]? = some (m xs[j] (k + cntL c (xs.take j)))
  | x :: xs, k, 0, _ => rfl
  | x :: xs, k, j + 1, hj => by
    have := markL_get (m := m) (c := c) xs (k + c x) j (Nat.lt_of_succ_lt_succ hj)
    have e : cntL c ((x :: xs).take (j + 1)) = c x + cntL c (xs.take j) := by unfold cntL; rw [List.take_succ_cons, List.map_cons, List.sum_cons]
    rw [e, ← Nat.add_assoc]
    exact this
/-- A loop that marks a slice. -/
theorem mark_loop {α Q : Type} {es d : Nat} {mk : α → List GV} {E : Rel α} (hE : Good es d mk E) {m : α → Nat → α} {c : α → Nat} {v : GV} {xs : List α} {R : List Nat} {k : Nat} (nd : R.Nodup) {f : Nat → Nat → Nat → Heap → Q} {A : Nat → Heap → Q}
    (h1 : ∀ j r h ys, RSl es E h [v] ys R → (hl : ys.length = xs.length) → (hj : j < xs.length) → ys[j]? = some xs[j] → ∃ h', f (r + 1) j (k + cntL c (xs.take j)) h = f r (j + 1) (k + cntL c (xs.take j) + c xs[j]) h' ∧ RSl es E h' [v] (ys.set j (m xs[j] (k + cntL c (xs.take j)))) R ∧ Fr R h h')
    (h2 : ∀ r h ys, RSl es E h [v] ys R → ys.length = xs.length → f (r + 1) xs.length (k + cntL c xs) h = A (k + cntL c xs) h) :
    ∀ {h : Heap}, RSl es E h [v] xs R → ∀ n, xs.length < n → ∃ h', f n 0 k h = A (k + cntL c xs) h' ∧ RSl es E h' [v] (markL m c xs k) R ∧ Fr R h h' := by
  intro h he n hn
  have key : ∀ n j h, xs.length - j < n → j ≤ xs.length → RSl es E h [v] (markL m c (xs.take j) k ++ xs.drop j) R → ∃ h', f n j (k + cntL c (xs.take j)) h = A (k + cntL c xs) h' ∧ RSl es E h' [v] (markL m c xs k) R ∧ Fr R h h' := by
    intro n
    induction n with
    | zero => intro j h h0; omega
    | succ n ih =>
      intro j h h0 hj he
      have hlen : (markL m c (xs.take j) k ++ xs.drop j).length = xs.length := by rw [List.length_append, markL_len, List.length_take, List.length_drop]; omega
      rcases Nat.lt_or_ge j xs.length with hlt | hge
      · have hget : (markL m c (xs.take j) k ++ xs.drop j)[j]? = some xs[j] := by
          rw [List.getElem?_append_right (by rw [markL_len, List.length_take]; omega), markL_len, List.length_take, List.getElem?_drop]
          rw [show j + (j - min j xs.length) = j by omega]
          exact List.getElem?_eq_getElem hlt
        obtain ⟨h', a1, a2, a3⟩ := h1 j n h _ he hlen hlt hget
        rw [markL_take xs k j hlt] at a2
        rw [Nat.add_assoc, ← cntL_take hlt] at a1
        obtain ⟨h'', b1, b2, b3⟩ := ih (j + 1) h' (by omega) (by omega) a2
        exact ⟨h'', a1.trans b1, b2, a3.trans b3⟩
      · have : j = xs.length := by omega
        subst this
        rw [List.take_length, List.drop_length, List.append_nil] at he
        rw [List.take_length]
        exact ⟨h, h2 n h _ he (markL_len _ _), he, .refl⟩
  have := key n 0 h (by omega) (by omega) (by simpa [markL] using he)
  simpa [cntL] using this
theorem All3.snoc {α : Type} {E : List GV → α → List Nat → Prop} {css : List (List GV)} {xs : List α} {Rs : List (List Nat)} (h : All3 E css xs Rs) {c : List GV} {x : α} {r : List Nat} (he : E c x r) : All3 E (css ++ [c]) (xs ++ [x]) (Rs ++ [r]) := by
  induction h with
  | nil => exact .cons he .nil
  | cons a _ ih => exact .cons a ih
theorem splice_zeros {es n j : Nat} {A c z : List GV} (hA : A.length = j * es) (hc : c.length = es) (hz : z.length = es) (hj : j < n) : splice (A ++ zeros z (n - j)) (j * es) c = A ++ c ++ zeros z (n - (j + 1)) := by
  unfold splice
  rw [List.take_append_of_le_length (by omega), List.take_of_length_le (by omega), hc, ← hA, ← List.drop_drop, List.drop_left]
  rw [show n - j = (n - (j + 1)) + 1 by omega]
  simp only [zeros]
  rw [← hz, List.drop_left]
  
/-- A loop that fills a slice that was made. -/
theorem fill_loop {α Q : Type} {es d : Nat} {mk : α → List GV} {E : Rel α} (hE : Good es d mk E) {z : List GV} (hz : z.length = es) {xs : List α} {f : Nat → Nat → Heap → Q} {A : Heap → Q}
    (h1 : ∀ j r cells B, (hj : j < xs.length) → cells.length = xs.length * es → ∃ c bl, c.length = es ∧ (∀ H T, H.length = 1 + B.length → E (H ++ bl ++ T) c xs[j] (List.range' (1 + B.length) bl.length)) ∧ f (r + 1) j (cells :: B) = f r (j + 1) (splice cells (j * es) c :: (B ++ bl)))
    (h2 : ∀ r h, f (r + 1) xs.length h = A h) : ∀ n, xs.length < n → ∃ css B Rs, f n 0 [zeros z xs.length] = A (css.flatten :: B) ∧ All3 (E (css.flatten :: B)) css xs Rs ∧ Rs.flatten = List.range' 1 B.length := by
  intro n hn
  have key : ∀ n j css B Rs, xs.length - j < n → j ≤ xs.length → All3 (E ((css.flatten ++ zeros z (xs.length - j)) :: B)) css (xs.take j) Rs → Rs.flatten = List.range' 1 B.length →
      ∃ css2 B' Rs, f n j ((css.flatten ++ zeros z (xs.length - j)) :: B) = A (css2.flatten :: B') ∧ All3 (E (css2.flatten :: B')) css2 xs Rs ∧ Rs.flatten = List.range' 1 B'.length := by
    intro n
    induction n with
    | zero => intro j css B Rs h0; omega
    | succ n ih =>
      intro j css B Rs h0 hj ha hr
      have fl := (All3.flen (fun h => hE.len h) ha).1
      rw [List.length_take, Nat.min_eq_left hj] at fl
      rcases Nat.lt_or_ge j xs.length with hlt | hge
      · have hlen : (css.flatten ++ zeros z (xs.length - j)).length = xs.length * es := by rw [List.length_append, fl, zeros_len', hz, ← Nat.add_mul]; congr 1; omega
        obtain ⟨c, bl, hc, he, hf⟩ := h1 j n _ B hlt hlen
        rw [splice_zeros fl hc hz hlt] at hf
        have e2 : (css ++ [c]).flatten.length = (j + 1) * es := by simp [fl, hc, Nat.add_mul]
        have e1 : css.flatten ++ c = (css ++ [c]).flatten := by simp
        rw [e1] at hf
        have ha' : All3 (E (((css ++ [c]).flatten ++ zeros z (xs.length - (j + 1))) :: (B ++ bl))) (css ++ [c]) (xs.take (j + 1)) (Rs ++ [List.range' (1 + B.length) bl.length]) := by
          rw [List.take_add_one, List.getElem?_eq_getElem hlt]
          refine All3.snoc (All3.frame (fun a b => hE.frame a b) ha fun i hi => ?_) ?_
          · rw [hr, List.mem_range'] at hi
            obtain ⟨q, hq, rfl⟩ := hi
            rw [show 1 + 1 * q = q + 1 by omega, List.getElem?_cons_succ, List.getElem?_cons_succ, List.getElem?_append_left hq]
          · have := he (((css ++ [c]).flatten ++ zeros z (xs.length - (j + 1))) :: B) [] (by rw [List.length_cons]; omega)
            simpa using this
        have hr' : (Rs ++ [List.range' (1 + B.length) bl.length]).flatten = List.range' 1 (B ++ bl).length := by
          rw [List.flatten_append, hr, List.length_append, ← List.range'_append_1]
          simp
        obtain ⟨css', B', Rs', b1, b2, b3⟩ := ih (j + 1) _ _ _ (by omega) (by omega) ha' hr'
        exact ⟨css', B', Rs', hf.trans b1, b2, b3⟩
      · have : j = xs.length := by omega
        subst this
        rw [Nat.sub_self] at ha ⊢
        simp only [zeros, List.append_nil] at ha ⊢
        rw [List.take_length] at ha
        exact ⟨css, B, Rs, h2 n _, ha, hr⟩
  obtain ⟨css, B', Rs, a1, a2, a3⟩ := key n 0 [] [] [] (by omega) (by omega) .nil rfl
  exact ⟨css, B', Rs, by simpa using a1, a2, a3⟩

theorem Fr.blk {R : List Nat} {H H' : Heap} (f : Fr R H H') {p : Nat} {c : List GV} (h : H[p]? = some c) (hn : p ∉ R) : H'[p]? = some c := (f.2 p (List.getElem?_eq_some_iff.1 h).1 hn).trans h
theorem kalloc_at {Q : Type} {z : List GV} {H : Heap} {K : GV → Heap → Option Q} : kalloc z H K = K (.ptr H.length 0 z.length) (H ++ [z]) := rfl
theorem kloadA_at {H : Heap} {p n : Nat} {c : List GV} (h : H[p]? = some c) (hl : c.length = n) : kloadA n H (.ptr p 0 n) = some (.agg c) := by
  rw [kloadA_ptr, cellsAt_if, h]
  simp [hl]
  rw [List.take_of_length_le (by omega)]
theorem kstoreA_at {H : Heap} {p n : Nat} {c c' : List GV} (h : H[p]? = some c) (hl : c.length = n) (hl' : c'.length = n) (hc : c'.all GV.isCell = true) : kstore n H (.ptr p 0 n) (.agg c') = some (H.set p c') := by
  rw [kstore_ptr, cells_agg, if_pos ⟨hl', hc⟩, cellsAt_if, h]
  simp only [Option.bind_some, hl, if_true]
  rw [if_pos (by omega)]
  simp only [splice, List.take_zero, List.nil_append, Nat.zero_add, hl']
  rw [List.drop_of_length_le (by omega), List.append_nil]
/-- A local variable that is made and filled. -/
theorem var_at {H : Heap} {z c : List GV} {n : Nat} (hz : z.length = n) (hl : c.length = n) (hc : c.all GV.isCell = true) : kstore n (H ++ [z]) (.ptr H.length 0 n) (.agg c) = some (H ++ [c]) := by
  rw [kstoreA_at (c := z) (by simp) hz hl hc]
  simp
theorem fresh_agg {α : Type} {es d : Nat} {mk : α → List GV} {E : Rel α} (hE : Good es d mk E) {f : FuncId} {args xs : List GV} {H : Heap} {x : α} (hb : bors H args = some xs) (he : ∃ c bl, OO f xs H.length = some (.agg c, bl) ∧ ∀ H' T, H'.length = H.length → E (H' ++ bl ++ T) c x (List.range' H.length bl.length)) :
    ∃ c R H', kF false HH f args H = some (.agg c, H') ∧ E H' c x R ∧ R.Nodup ∧ Bd R H.length H'.length ∧ Fr [] H H' ∧ H.length ≤ H'.length := by
  obtain ⟨c, bl, h1, h2⟩ := he
  refine ⟨c, _, H ++ bl, by rw [kF_OO, hb]; simp [h1], by simpa using h2 H [] rfl, List.nodup_range', fun i hi => ?_, .app, by simp⟩
  rw [List.mem_range'_1] at hi
  simp; omega
theorem fresh_tup {α : Type} {es d : Nat} {mk : α → List GV} {E : Rel α} (hE : Good es d mk E) {f : FuncId} {args xs : List GV} {H : Heap} {x : α} {t : Bool} (hb : bors H args = some xs) (he : ∃ c bl, OO f xs H.length = some (.tup [.agg c, .bool t], bl) ∧ ∀ H' T, H'.length = H.length → E (H' ++ bl ++ T) c x (List.range' H.length bl.length)) :
    ∃ c R H', kF false HH f args H = some (.tup [.agg c, .bool t], H') ∧ E H' c x R ∧ R.Nodup ∧ Bd R H.length H'.length ∧ Fr [] H H' ∧ H.length ≤ H'.length := by
  obtain ⟨c, bl, h1, h2⟩ := he
  refine ⟨c, _, H ++ bl, by rw [kF_OO, hb]; simp [h1], by simpa using h2 H [] rfl, List.nodup_range', fun i hi => ?_, .app, by simp⟩
  rw [List.mem_range'_1] at hi
  simp; omega
/-- A call with data out of memory. -/
theorem bors_agg {α : Type} {es d : Nat} {mk : α → List GV} {E : Rel α} (hE : Good es d mk E) (hd : d ≤ 8) {H : Heap} {c : List GV} {x : α} {R : List Nat} (he : E H c x R) {gs xs : List GV} (h : bors H gs = some xs) : bors H (.agg c :: gs) = some (.agg (mk x) :: xs) := by
  rw [bors_cons, hE.lendS hd he, h]; rfl
theorem kN_at {f : FuncId} {args xs : List GV} {H : Heap} {v : GV} (hb : bors H args = some xs) (h : NN f xs = some v) : kN NN f args H = some v := by rw [kN_eq, hb]; exact h
/-- A slice of a slice that is told. -/
theorem ksl_fzl {α : Type} {es : Nat} {t : Bool} {mk : α → List GV} (hm : ∀ a, (mk a).length = es) {xs : List α} {n : Int} (h0 : 0 ≤ n) (h1 : n ≤ xs.length) : ksl es (fzl t es mk xs) none (some (.int .i64 n)) none = some (fzl t es mk (xs.take n.toNat)) := by
  cases xs with
  | nil =>
    have : n = 0 := by simp at h1; omega
    subst this
    simp [fzl, mt, ksl, kslice, gslice, gopt, gint]
  | cons x xs =>
    have hl := len_flat hm (x :: xs)
    by_cases hn : n = 0
    · subst hn
      have q : (0 : Int) ≤ (xs.length : Int) + 1 := by omega
      simp [fzl, mt, ksl, kslice, gslice, gopt, gint, q]
    · have e : ((x :: xs).take n.toNat).length = n.toNat := by rw [List.length_take]; omega
      have hne : 0 < ((x :: xs).take n.toNat).length := by omega
      rw [fzl_ne hne, e]
      have h2 : n ≤ (xs.length : Int) + 1 := by simpa using h1
      have h3 : ((x :: xs).flatMap mk).take (n.toNat * es) = ((x :: xs).take n.toNat).flatMap mk := by
        have := len_flat hm ((x :: xs).take n.toNat)
        rw [e] at this
        conv => lhs; rw [← List.take_append_drop n.toNat (x :: xs), List.flatMap_append]
        rw [← this, List.take_left]
      have h3' : (mk x ++ xs.flatMap mk).take (n.toNat * es) = ((x :: xs).take n.toNat).flatMap mk := h3
      simp [fzl, ksl, kslice, gslice, gopt, gint, h0, h2, hn, h3']

theorem All3.nodup_set {α : Type} {E : List GV → α → List Nat → Prop} {css : List (List GV)} {xs : List α} {Rs : List (List Nat)} (h : All3 E css xs Rs) : True := trivial
/-- One element of a slice, also with other memory behind it. -/
theorem RSl.focus2 {α : Type} {es d : Nat} {mk : α → List GV} {E : Rel α} (hE : Good es d mk E) {h : Heap} {v : GV} {xs : List α} {R : List Nat} (he : RSl es E h [v] xs R) (nd : R.Nodup) {j : Nat} (hj : j < xs.length) :
    ∃ (b : Nat) (css : List (List GV)) (c : List GV) (r : List Nat), v = .sl b 0 xs.length xs.length es ∧ h[b]? = some css.flatten ∧ css.length = xs.length ∧ css[j]? = some c ∧ (∀ c ∈ css, c.length = es) ∧ E h c xs[j] r ∧ b ∉ r ∧ b ∈ R ∧ (∀ i ∈ r, i ∈ R) ∧ r.Nodup ∧
      ∀ h' c' x' r', h'[b]? = some (css.set j c').flatten → E h' c' x' r' → r'.Nodup → (∀ i ∈ r', i ∈ r ∨ i ∉ R) → (∀ i ∈ R, i ≠ b → i ∉ r → h'[i]? = h[i]?) → ∃ R', RSl es E h' [v] (xs.set j x') R' ∧ R'.Nodup ∧ ∀ i ∈ R', i ∈ R ∨ i ∈ r' := by
  rcases he with ⟨rfl, _, _⟩ | ⟨b, css, Rs, hv, hb, ha, rfl⟩
  · cases hj
  · obtain ⟨fl, fe⟩ := All3.flen (fun h => hE.len h) ha
    have key : ∀ {css : List (List GV)} {xs : List α} {Rs : List (List Nat)} (ha : All3 (E h) css xs Rs) (nd : Rs.flatten.Nodup) {j : Nat} (hj : j < xs.length), ∃ (c : List GV) (r : List Nat), css[j]? = some c ∧ E h c xs[j] r ∧ (∀ i ∈ r, i ∈ Rs.flatten) ∧ r.Nodup ∧
        ∀ h' c' x' r', E h' c' x' r' → r'.Nodup → (∀ i ∈ r', i ∈ r ∨ i ∉ Rs.flatten) → (∀ i ∈ Rs.flatten, i ∉ r → h'[i]? = h[i]?) → ∃ Rs', All3 (E h') (css.set j c') (xs.set j x') Rs' ∧ Rs'.flatten.Nodup ∧ ∀ i ∈ Rs'.flatten, i ∈ Rs.flatten ∨ i ∈ r' := by
      intro css xs Rs ha
      induction ha with
      | nil => intro _ j hj; cases hj
      | @cons c x r css xs Rs a ha ih =>
        intro nd j hj
        rw [List.flatten_cons, List.nodup_append] at nd
        cases j with
        | zero =>
          refine ⟨c, r, rfl, a, fun i hi => ?_, nd.1, fun h' c' x' r' he hn hs hf => ⟨r' :: Rs, ?_, ?_, ?_⟩⟩
          · rw [List.flatten_cons]; exact List.mem_append_left _ hi
          · refine .cons he (All3.frame (fun a b => hE.frame a b) ha fun i hi => hf i (by rw [List.flatten_cons]; exact List.mem_append_right _ hi) fun hi' => ?_)
            exact nd.2.2 i hi' i hi rfl
          · rw [List.flatten_cons, List.nodup_append]
            refine ⟨hn, nd.2.1, fun i hi k hk e => ?_⟩
            subst e
            rcases hs i hi with h1 | h1
            · exact nd.2.2 i h1 i hk rfl
            · exact h1 (by rw [List.flatten_cons]; exact List.mem_append_right _ hk)
          · intro i hi
            rw [List.flatten_cons] at hi ⊢
            rcases List.mem_append.1 hi with hi | hi
            · exact Or.inr hi
            · exact Or.inl (List.mem_append_right _ hi)
        | succ j =>
          obtain ⟨c0, r0, b1, b2, b3, b4, b5⟩ := ih nd.2.1 (Nat.lt_of_succ_lt_succ hj)
          refine ⟨c0, r0, b1, b2, fun i hi => ?_, b4, fun h' c' x' r' he hn hs hf => ?_⟩
          · rw [List.flatten_cons]; exact List.mem_append_right _ (b3 i hi)
          · obtain ⟨Rs', q1, q2, q3⟩ := b5 h' c' x' r' he hn (fun i hi => (hs i hi).imp id fun h1 h2 => h1 (by rw [List.flatten_cons]; exact List.mem_append_right _ h2)) (fun i hi hn => hf i (by rw [List.flatten_cons]; exact List.mem_append_right _ hi) hn)
            refine ⟨r :: Rs', .cons (hE.frame a fun i hi => hf i (by rw [List.flatten_cons]; exact List.mem_append_left _ hi) fun hi' => nd.2.2 i hi i (b3 i hi') rfl) q1, ?_, ?_⟩
            · rw [List.flatten_cons, List.nodup_append]
              refine ⟨nd.1, q2, fun i hi k hk e => ?_⟩
              subst e
              rcases q3 i hk with h1 | h1
              · exact nd.2.2 i hi i h1 rfl
              · rcases hs i h1 with h2 | h2
                · exact nd.2.2 i hi i (b3 i h2) rfl
                · exact h2 (by rw [List.flatten_cons]; exact List.mem_append_left _ hi)
            · intro i hi
              rw [List.flatten_cons] at hi ⊢
              rcases List.mem_append.1 hi with hi | hi
              · exact Or.inl (List.mem_append_left _ hi)
              · exact (q3 i hi).imp (fun h => List.mem_append_right _ h) id
    rw [List.nodup_cons] at nd
    obtain ⟨c, r, b1, b2, b3, b4, b5⟩ := key ha nd.2 hj
    refine ⟨b, css, c, r, by injection hv, hb, ha.len.1, b1, fe, b2, fun h' => nd.1 (b3 b h'), List.mem_cons_self .., fun i hi => List.mem_cons_of_mem _ (b3 i hi), b4, fun h' c' x' r' hb' he hn hs hf => ?_⟩
    obtain ⟨Rs', q1, q2, q3⟩ := b5 h' c' x' r' he hn (fun i hi => (hs i hi).imp id fun h1 h2 => h1 (List.mem_cons_of_mem _ h2)) fun i hi hn => hf i (List.mem_cons_of_mem _ hi) (fun e => nd.1 (e ▸ hi)) hn
    refine ⟨b :: Rs'.flatten, Or.inr ⟨b, css.set j c', Rs', by rw [List.length_set]; exact hv, hb', q1, rfl⟩, ?_, fun i hi => ?_⟩
    · rw [List.nodup_cons]
      refine ⟨fun hi => ?_, q2⟩
      rcases q3 b hi with h1 | h1
      · exact nd.1 h1
      · rcases hs b h1 with h2 | h2
        · exact nd.1 (b3 b h2)
        · exact h2 (List.mem_cons_self ..)
    · rcases List.mem_cons.1 hi with rfl | hi
      · exact Or.inl (List.mem_cons_self ..)
      · exact (q3 i hi).imp (fun h => List.mem_cons_of_mem _ h) id

/-- append of one element that lies in block q. -/
theorem app_sl {α : Type} {es d b : Nat} {mk : α → List GV} {E : Rel α} (hE : Good es d mk E) (h0 : 0 < es) {z : List GV} (hz : z.length = es) (hb : b ≤ 1024) {H : Heap} {v : GV} {xs : List α} {R : List Nat} (he : RSl es E H [v] xs R) (nd : R.Nodup) (hn : xs.length ≤ 4194304)
    {cx : List GV} {x : α} {Rx : List Nat} (hx : E H cx x Rx) (nx : Rx.Nodup) (hd : ∀ i ∈ Rx, i ∉ R) {q : Nat} (hq : H[q]? = some cx) :
    ∃ v' H' R', kapp z es b v (.sl q 0 1 1 es) H = some (v', H') ∧ RSl es E H' [v'] (xs ++ [x]) R' ∧ R'.Nodup ∧ (∀ i ∈ R', i ∈ R ∨ i ∈ Rx ∨ i = H.length) ∧ Fr R H H' ∧ (v'.cells = [v'] ∧ v'.isCell = true) ∧ ((∃ i, v = .sl i 0 xs.length xs.length es ∧ i ∈ R ∧ H'.length = H.length ∧ kblk v = [i]) ∨ (kblk v = [] ∧ H' = H ++ [cx])) := by
  have hcl := hE.len hx
  have hcc := hE.cell hx
  have hg : gcells H es (.sl q 0 1 1 es) = some (1, cx, [q]) := by
    unfold gcells
    simp [hq, hcl]
    rw [List.take_of_length_le (by omega)]
  have h2 : 1 * b ≤ roomMax := by simp only [roomMax]; omega
  rcases he with ⟨rfl, rfl, hc⟩ | ⟨i, css, Rs, hv, hi, ha, rfl⟩
  · have hE' : E (H ++ [cx]) cx x Rx := hE.grow hx
    refine ⟨.sl H.length 0 1 1 es, H ++ [cx], H.length :: Rx, ?_, Or.inr ⟨H.length, [cx], [Rx], rfl, by simp, .cons hE' .nil, by simp⟩, ?_, ?_, .app, ⟨rfl, rfl⟩, Or.inr ⟨?_, rfl⟩⟩
    · unfold kapp
      rw [hg]
      simp only [Option.bind_some]
      rw [if_pos ⟨hcc, hz, by simp only [maxLen]; omega, h2⟩]
      rcases hc with hc | hc <;> (injection hc with hc; subst hc; rfl)
    · rw [List.nodup_cons]
      exact ⟨fun h => by have := hE.mem hx _ h; omega, nx⟩
    · intro k hk
      rcases List.mem_cons.1 hk with rfl | hk
      · exact Or.inr (Or.inr rfl)
      · exact Or.inr (Or.inl hk)
    · rcases hc with hc | hc <;> (injection hc with hc; subst hc; rfl)
  · injection hv with hv
    obtain ⟨fl, fe⟩ := All3.flen (fun h => hE.len h) ha
    rw [List.nodup_cons] at nd
    have hir : i ∉ Rx := fun h => hd i h (List.mem_cons_self ..)
    have hil := (List.getElem?_eq_some_iff.1 hi).1
    have e1 : (css ++ [cx]).flatten = css.flatten ++ cx := by simp
    refine ⟨.sl i 0 (xs.length + 1) (xs.length + 1) es, H.set i (css ++ [cx]).flatten, i :: (Rs.flatten ++ Rx), ?_, Or.inr ⟨i, css ++ [cx], Rs ++ [Rx], by rw [List.length_append]; rfl, ?_, ?_, by simp⟩, ?_, ?_, .set (List.mem_cons_self ..), ⟨rfl, rfl⟩, Or.inl ⟨i, hv, List.mem_cons_self .., by rw [List.length_set], by rw [hv]; rfl⟩⟩
    · rw [hv]
      have h1 : (xs.length + 1) * b ≤ 4194305 * 1024 := Nat.mul_le_mul (by omega) hb
      unfold kapp
      rw [hg]
      simp only [Option.bind_some]
      rw [if_pos ⟨hcc, hz, by simp only [maxLen]; omega, h2⟩]
      simp only [Nat.zero_add, cellsAt_if, hi, Option.bind_some, fl, if_true]
      rw [if_pos ⟨trivial, Nat.le_refl _, by simp only [roomMax]; omega, by simp only [maxLen]; omega⟩, if_neg (by omega), if_pos ⟨trivial, h0⟩, List.take_of_length_le (by omega), e1]
    · rw [List.getElem?_set_self hil]
    · refine All3.snoc (All3.frame (fun a b => hE.frame a b) ha fun k hk => List.getElem?_set_ne fun e => nd.1 (by rw [e]; exact hk)) (hE.frame hx fun k hk => List.getElem?_set_ne fun e => hir (by rw [e]; exact hk))
    · rw [List.nodup_cons, List.nodup_append, List.mem_append]
      exact ⟨fun h => h.elim nd.1 hir, nd.2, nx, fun a ha b hb e => hd b hb (List.mem_cons_of_mem _ (e ▸ ha))⟩
    · intro k hk
      rcases List.mem_cons.1 hk with rfl | hk
      · exact Or.inl (List.mem_cons_self ..)
      · rcases List.mem_append.1 hk with hk | hk
        · exact Or.inl (List.mem_cons_of_mem _ hk)
        · exact Or.inr (Or.inl hk)
theorem kbs_at {Q : Type} {len es : Nat} {c : List GV} {H : Heap} {K : GV → Heap → Option Q} : kbs len es c H K = K (.sl H.length 0 len len es) (H ++ [c]) := rfl
/-- An element is put behind the slice that lies at place o of block p. -/
theorem push {α : Type} {es d b : Nat} {mk : α → List GV} {E : Rel α} (hE : Good es d mk E) (h0 : 0 < es) {z : List GV} (hz : z.length = es) (hb : b ≤ 1024) {H : Heap} {v : GV} {xs : List α} {R : List Nat} (he : RSl es E H [v] xs R) (nd : R.Nodup) (hn : xs.length ≤ 4194304)
    {cx : List GV} {x : α} {Rx : List Nat} (hx : E H cx x Rx) (nx : Rx.Nodup) (hd : ∀ i ∈ Rx, i ∉ R) {p o n : Nat} {C : List GV} (hp : H[p]? = some C) (hC : C.length = n) (ho : o < n) (hpR : p ∉ R) (hpx : p ∉ Rx) :
    ∃ v' H4 H5 R', kapp z es b v (.sl H.length 0 1 1 es) (H ++ [cx]) = some (v', H4) ∧ kstore 1 H4 (.ptr p o n) v' = some H5 ∧ RSl es E H5 [v'] (xs ++ [x]) R' ∧ R'.Nodup ∧ (∀ i ∈ R', i ∈ R ∨ i ∈ Rx ∨ H.length ≤ i) ∧ H5[p]? = some (C.set o v') ∧ Fr (p :: R) H H5 := by
  have hpl := (List.getElem?_eq_some_iff.1 hp).1
  have hm := (RSl.good hE).mem he
  obtain ⟨v', H4, R', a1, a2, a3, a4, a5, a6, _⟩ := app_sl hE h0 hz hb (H := H ++ [cx]) ((RSl.good hE).grow he) nd hn (hE.grow hx) nx hd (q := H.length) (by simp)
  have hp4 : H4[p]? = some C := a5.blk (by rw [List.getElem?_append_left hpl]; exact hp) hpR
  have hpl4 := (List.getElem?_eq_some_iff.1 hp4).1
  have hpR' : p ∉ R' := fun h => by
    rcases a4 p h with h | h | h
    · exact hpR h
    · exact hpx h
    · rw [List.length_append] at h; simp at h; omega
  refine ⟨v', H4, H4.set p (C.set o v'), R', a1, kstore_at hp4 hC ho a6.1 a6.2, (RSl.good hE).keep a2 (.set (R := [p]) (by simp)) (fun i hi h => hpR' (by rw [List.mem_singleton] at h; rw [← h]; exact hi)), a3, fun i hi => ?_, List.getElem?_set_self hpl4, ?_⟩
  · rcases a4 i hi with h | h | h
    · exact Or.inl h
    · exact Or.inr (Or.inl h)
    · rw [List.length_append] at h; simp at h; exact Or.inr (Or.inr (by omega))
  · exact (Fr.app (t := [cx])).trans ((a5.sub (fun i hi => List.mem_cons_of_mem _ hi)).trans (.set (List.mem_cons_self ..)))
end Go.Proofs.Ytlbnioapepelnaa.G

namespace Go.Proofs.Ytlbnioapepelnaa.G
open Go.RowKit
set_option linter.unusedVariables false
set_option maxRecDepth 100000
abbrev KT0 (R : Type) : Type := GX → Heap → Option R
abbrev KT1 (R : Type) : Type := GX → GV → Heap → Option R
abbrev KT2 (R : Type) : Type := GX → GV → GV → Heap → Option R
abbrev KT3 (R : Type) : Type := GX → GV → GV → GV → Heap → Option R
abbrev KT4 (R : Type) : Type := GX → GV → GV → GV → GV → Heap → Option R
abbrev KT5 (R : Type) : Type := GX → GV → GV → GV → GV → GV → Heap → Option R
abbrev KT6 (R : Type) : Type := GX → GV → GV → GV → GV → GV → GV → Heap → Option R
abbrev KT7 (R : Type) : Type := GX → GV → GV → GV → GV → GV → GV → GV → Heap → Option R
abbrev KT8 (R : Type) : Type := GX → GV → GV → GV → GV → GV → GV → GV → GV → Heap → Option R
abbrev KT9 (R : Type) : Type := GX → GV → GV → GV → GV → GV → GV → GV → GV → GV → Heap → Option R
abbrev KT10 (R : Type) : Type := GX → GV → GV → GV → GV → GV → GV → GV → GV → GV → GV → Heap → Option R
abbrev KT11 (R : Type) : Type := GX → GV → GV → GV → GV → GV → GV → GV → GV → GV → GV → GV → Heap → Option R
abbrev KT12 (R : Type) : Type := GX → GV → GV → GV → GV → GV → GV → GV → GV → GV → GV → GV → GV → Heap → Option R
abbrev KT13 (R : Type) : Type := GX → GV → GV → GV → GV → GV → GV → GV → GV → GV → GV → GV → GV → GV → Heap → Option R
abbrev KT14 (R : Type) : Type := GX → GV → GV → GV → GV → GV → GV → GV → GV → GV → GV → GV → GV → GV → GV → Heap → Option R
abbrev KT15 (R : Type) : Type := GX → GV → GV → GV → GV → GV → GV → GV → GV → GV → GV → GV → GV → GV → GV → GV → Heap → Option R
abbrev KT16 (R : Type) : Type := GX → GV → GV → GV → GV → GV → GV → GV → GV → GV → GV → GV → GV → GV → GV → GV → GV → Heap → Option R
abbrev KT17 (R : Type) : Type := GX → GV → GV → GV → GV → GV → GV → GV → GV → GV → GV → GV → GV → GV → GV → GV → GV → GV → Heap → Option R
abbrev KT18 (R : Type) : Type := GX → GV → GV → GV → GV → GV → GV → GV → GV → GV → GV → GV → GV → GV → GV → GV → GV → GV → GV → Heap → Option R
abbrev KT19 (R : Type) : Type := GX → GV → GV → GV → GV → GV → GV → GV → GV → GV → GV → GV → GV → GV → GV → GV → GV → GV → GV → GV → Heap → Option R
abbrev KT20 (R : Type) : Type := GX → GV → GV → GV → GV → GV → GV → GV → GV → GV → GV → GV → GV → GV → GV → GV → GV → GV → GV → GV → GV → Heap → Option R
abbrev KT21 (R : Type) : Type := GX → GV → GV → GV → GV → GV → GV → GV → GV → GV → GV → GV → GV → GV → GV → GV → GV → GV → GV → GV → GV → GV → Heap → Option R
abbrev KT22 (R : Type) : Type := GX → GV → GV → GV → GV → GV → GV → GV → GV → GV → GV → GV → GV → GV → GV → GV → GV → GV → GV → GV → GV → GV → GV → Heap → Option R
abbrev KT23 (R : Type) : Type := GX → GV → GV → GV → GV → GV → GV → GV → GV → GV → GV → GV → GV → GV → GV → GV → GV → GV → GV → GV → GV → GV → GV → GV → Heap → Option R
abbrev KT24 (R : Type) : Type := GX → GV → GV → GV → GV → GV → GV → GV → GV → GV → GV → GV → GV → GV → GV → GV → GV → GV → GV → GV → GV → GV → GV → GV → GV → Heap → Option R
abbrev KT25 (R : Type) : Type := GX → GV → GV → GV → GV → GV → GV → GV → GV → GV → GV → GV → GV → GV → GV → GV → GV → GV → GV → GV → GV → GV → GV → GV → GV → GV → Heap → Option R
abbrev KT26 (R : Type) : Type := GX → GV → GV → GV → GV → GV → GV → GV → GV → GV → GV → GV → GV → GV → GV → GV → GV → GV → GV → GV → GV → GV → GV → GV → GV → GV → GV → Heap → Option R
abbrev KT27 (R : Type) : Type := GX → GV → GV → GV → GV → GV → GV → GV → GV → GV → GV → GV → GV → GV → GV → GV → GV → GV → GV → GV → GV → GV → GV → GV → GV → GV → GV → GV → Heap → Option R
abbrev KT28 (R : Type) : Type := GX → GV → GV → GV → GV → GV → GV → GV → GV → GV → GV → GV → GV → GV → GV → GV → GV → GV → GV → GV → GV → GV → GV → GV → GV → GV → GV → GV → GV → Heap → Option R
abbrev KT29 (R : Type) : Type := GX → GV → GV → GV → GV → GV → GV → GV → GV → GV → GV → GV → GV → GV → GV → GV → GV → GV → GV → GV → GV → GV → GV → GV → GV → GV → GV → GV → GV → GV → Heap → Option R
abbrev KT30 (R : Type) : Type := GX → GV → GV → GV → GV → GV → GV → GV → GV → GV → GV → GV → GV → GV → GV → GV → GV → GV → GV → GV → GV → GV → GV → GV → GV → GV → GV → GV → GV → GV → GV → Heap → Option R
noncomputable section
variable {R : Type} (k : Nat)
/-! impl_in -/
namespace S.impl_in
noncomputable def c0 : Code := bodyOf Try.f105
noncomputable def c1 : Code := cR c0
noncomputable def c2 : Code := cR c1
@[simp] def n2 {R : Type} (k : Nat) (G : KT1 R) (v6 : GV) (h : Heap) : Option R := G .ret v6 h
theorem n2_eq (G : KT1 R) (σ : GS) (h : Heap) : KC k 15 c2 σ h (fun x σ h => G x (σ 6) h) = n2 k G (σ 6) h := by kernel_rfl
noncomputable def c3 : Code := cL c1
noncomputable def o3 : Array Oper := cO c3
@[simp] def g3_2 {R : Type} (k : Nat) (G : KT1 R) (v10 v13 : GV) (h : Heap) : Option R := (kpick v10 v13 (.bool false)).bind fun v14 => G .nrm v14 h
theorem g3_2_eq (G : KT1 R) (σ : GS) (h : Heap) : kgroups PP cfg NN HH 15 o3 [(none, [7, 8])] σ h (fun σ h => G .nrm (σ 6) h) = g3_2 k G (σ 10) (σ 13) h := by kernel_rfl
@[simp] def g3_1 (G : KT1 R) (v0 v2 v10 : GV) (h : Heap) : Option R := bif tr true v10 then (kbin .leq v0 v2).bind fun v13 => g3_2 k G v10 v13 h else g3_2 k G v10 .un h
theorem g3_1_eq (G : KT1 R) (σ : GS) (h : Heap) : kgroups PP cfg NN HH 15 o3 [(some (3, true), [4, 5, 6]), (none, [7, 8])] σ h (fun σ h => G .nrm (σ 6) h) = g3_1 k G (σ 0) (σ 2) (σ 10) h := (kgroups_cons (fun σ h => g3_2_eq k G σ h)).trans (by kernel_rfl)
@[simp] def g3_0 (G : KT1 R) (v0 v1 v2 : GV) (h : Heap) : Option R := (kbin .leq v1 v0).bind fun v9 => g3_1 k G v0 v2 v9 h
theorem g3_0_eq (G : KT1 R) (σ : GS) (h : Heap) : kgroups PP cfg NN HH 15 o3 [(none, [0, 1, 2, 3]), (some (3, true), [4, 5, 6]), (none, [7, 8])] σ h (fun σ h => G .nrm (σ 6) h) = g3_0 k G (σ 0) (σ 1) (σ 2) h := (kgroups_cons (fun σ h => g3_1_eq k G σ h)).trans (by kernel_rfl)
@[simp] def n3 (G : KT1 R) (v0 v1 v2 : GV) (h : Heap) : Option R := g3_0 k G v0 v1 v2 h
theorem n3_eq (G : KT1 R) (σ : GS) (h : Heap) : KC k 15 c3 σ h (fun x σ h => G x (σ 6) h) = n3 k G (σ 0) (σ 1) (σ 2) h := (kregion_eq (id := 1) (draw := false) (ops := o3) (gs := [(none, [0, 1, 2, 3]), (some (3, true), [4, 5, 6]), (none, [7, 8])]) (by kernel_rfl) (by kernel_rfl) (by kernel_rfl)).trans (g3_0_eq k G σ h)
@[simp] def n1 (G : KT1 R) (v0 v1 v2 : GV) (h : Heap) : Option R := n3 k (fun x v6 h => kx x (n2 k G v6 h) (G x v6 h)) v0 v1 v2 h
theorem n1_eq (G : KT1 R) (σ : GS) (h : Heap) : KC k 15 c1 σ h (fun x σ h => G x (σ 6) h) = n1 k G (σ 0) (σ 1) (σ 2) h := (kseq (b := c2) rfl (fun σ h => n2_eq k G σ h)).trans (n3_eq k (fun x v6 h => kx x (n2 k G v6 h) (G x v6 h)) σ h)
noncomputable def c4 : Code := cL c0
@[simp] def n0 (G : KT1 R) (v0 v1 v2 : GV) (h : Heap) : Option R := n1 k G v0 v1 v2 h
theorem n0_eq (G : KT1 R) (σ : GS) (h : Heap) : KC k 15 c0 σ h (fun x σ h => G x (σ 6) h) = n0 k G (σ 0) (σ 1) (σ 2) h := (kseq (a := c4) (b := c1) rfl (fun σ h => n1_eq k G σ h)).trans (by kernel_rfl)
def run {R : Type} (k : Nat) (a0 : GV) (a1 : GV) (a2 : GV) (h : Heap) (fin : GV → Heap → Option R) : Option R := n0 k (fun x v6 h => kend x (fin v6 h)) a0 a1 a2 h
theorem run_eq {R : Type} (k : Nat) (a0 : GV) (a1 : GV) (a2 : GV) (h : Heap) (fin : GV → Heap → Option R) : kfun PP cfg NN HH k fn.impl_in [a0, a1, a2] h fin = run k a0 a1 a2 h fin := (kfun_eq (nt := 15) (c := c0) (show PP.funcs[fn.impl_in]? = some Try.f105 by kernel_rfl) (by kernel_rfl) (by kernel_rfl) (fun x σ h => by cases x <;> kernel_rfl)).trans (n0_eq k (fun x v6 h => kend x (fin v6 h)) _ h)
theorem gives {k : Nat} {a0 : GV} {a1 : GV} {a2 : GV} {v : GV} (e : run k a0 a1 a2 [] finN = some v) : NN fn.impl_in [a0, a1, a2] = some v := nω_of (by kernel_rfl) ((run_eq k a0 a1 a2 [] finN).trans e)
end S.impl_in
/-! spec_l1In -/
namespace S.spec_l1In
noncomputable def c0 : Code := bodyOf Try.f119
noncomputable def c1 : Code := cR c0
noncomputable def c2 : Code := cR c1
@[simp] def n2 {R : Type} (k : Nat) (G : KT1 R) (v6 : GV) (h : Heap) : Option R := G .ret v6 h
theorem n2_eq (G : KT1 R) (σ : GS) (h : Heap) : KC k 15 c2 σ h (fun x σ h => G x (σ 6) h) = n2 k G (σ 6) h := by kernel_rfl
noncomputable def c3 : Code := cL c1
noncomputable def o3 : Array Oper := cO c3
@[simp] def g3_2 {R : Type} (k : Nat) (G : KT1 R) (v10 v13 : GV) (h : Heap) : Option R := (kpick v10 v13 (.bool false)).bind fun v14 => G .nrm v14 h
theorem g3_2_eq (G : KT1 R) (σ : GS) (h : Heap) : kgroups PP cfg NN HH 15 o3 [(none, [7, 8])] σ h (fun σ h => G .nrm (σ 6) h) = g3_2 k G (σ 10) (σ 13) h := by kernel_rfl
@[simp] def g3_1 (G : KT1 R) (v0 v2 v10 : GV) (h : Heap) : Option R := bif tr true v10 then (kbin .leq v0 v2).bind fun v13 => g3_2 k G v10 v13 h else g3_2 k G v10 .un h
theorem g3_1_eq (G : KT1 R) (σ : GS) (h : Heap) : kgroups PP cfg NN HH 15 o3 [(some (3, true), [4, 5, 6]), (none, [7, 8])] σ h (fun σ h => G .nrm (σ 6) h) = g3_1 k G (σ 0) (σ 2) (σ 10) h := (kgroups_cons (fun σ h => g3_2_eq k G σ h)).trans (by kernel_rfl)
@[simp] def g3_0 (G : KT1 R) (v0 v1 v2 : GV) (h : Heap) : Option R := (kbin .geq v0 v1).bind fun v9 => g3_1 k G v0 v2 v9 h
theorem g3_0_eq (G : KT1 R) (σ : GS) (h : Heap) : kgroups PP cfg NN HH 15 o3 [(none, [0, 1, 2, 3]), (some (3, true), [4, 5, 6]), (none, [7, 8])] σ h (fun σ h => G .nrm (σ 6) h) = g3_0 k G (σ 0) (σ 1) (σ 2) h := (kgroups_cons (fun σ h => g3_1_eq k G σ h)).trans (by kernel_rfl)
@[simp] def n3 (G : KT1 R) (v0 v1 v2 : GV) (h : Heap) : Option R := g3_0 k G v0 v1 v2 h
theorem n3_eq (G : KT1 R) (σ : GS) (h : Heap) : KC k 15 c3 σ h (fun x σ h => G x (σ 6) h) = n3 k G (σ 0) (σ 1) (σ 2) h := (kregion_eq (id := 1) (draw := false) (ops := o3) (gs := [(none, [0, 1, 2, 3]), (some (3, true), [4, 5, 6]), (none, [7, 8])]) (by kernel_rfl) (by kernel_rfl) (by kernel_rfl)).trans (g3_0_eq k G σ h)
@[simp] def n1 (G : KT1 R) (v0 v1 v2 : GV) (h : Heap) : Option R := n3 k (fun x v6 h => kx x (n2 k G v6 h) (G x v6 h)) v0 v1 v2 h
theorem n1_eq (G : KT1 R) (σ : GS) (h : Heap) : KC k 15 c1 σ h (fun x σ h => G x (σ 6) h) = n1 k G (σ 0) (σ 1) (σ 2) h := (kseq (b := c2) rfl (fun σ h => n2_eq k G σ h)).trans (n3_eq k (fun x v6 h => kx x (n2 k G v6 h) (G x v6 h)) σ h)
noncomputable def c4 : Code := cL c0
@[simp] def n0 (G : KT1 R) (v0 v1 v2 : GV) (h : Heap) : Option R := n1 k G v0 v1 v2 h
theorem n0_eq (G : KT1 R) (σ : GS) (h : Heap) : KC k 15 c0 σ h (fun x σ h => G x (σ 6) h) = n0 k G (σ 0) (σ 1) (σ 2) h := (kseq (a := c4) (b := c1) rfl (fun σ h => n1_eq k G σ h)).trans (by kernel_rfl)
def run {R : Type} (k : Nat) (a0 : GV) (a1 : GV) (a2 : GV) (h : Heap) (fin : GV → Heap → Option R) : Option R := n0 k (fun x v6 h => kend x (fin v6 h)) a0 a1 a2 h
theorem run_eq {R : Type} (k : Nat) (a0 : GV) (a1 : GV) (a2 : GV) (h : Heap) (fin : GV → Heap → Option R) : kfun PP cfg NN HH k fn.spec_l1In [a0, a1, a2] h fin = run k a0 a1 a2 h fin := (kfun_eq (nt := 15) (c := c0) (show PP.funcs[fn.spec_l1In]? = some Try.f119 by kernel_rfl) (by kernel_rfl) (by kernel_rfl) (fun x σ h => by cases x <;> kernel_rfl)).trans (n0_eq k (fun x v6 h => kend x (fin v6 h)) _ h)
theorem gives {k : Nat} {a0 : GV} {a1 : GV} {a2 : GV} {v : GV} (e : run k a0 a1 a2 [] finN = some v) : NN fn.spec_l1In [a0, a1, a2] = some v := nω_of (by kernel_rfl) ((run_eq k a0 a1 a2 [] finN).trans e)
end S.spec_l1In
/-! impl_RuneOk -/
namespace S.impl_RuneOk
noncomputable def c0 : Code := bodyOf Try.f224
noncomputable def c1 : Code := cR c0
noncomputable def c2 : Code := cR c1
@[simp] def n2 {R : Type} (k : Nat) (G : KT1 R) (v2 : GV) (h : Heap) : Option R := G .ret v2 h
theorem n2_eq (G : KT1 R) (σ : GS) (h : Heap) : KC k 10 c2 σ h (fun x σ h => G x (σ 2) h) = n2 k G (σ 2) h := by kernel_rfl
noncomputable def c3 : Code := cL c1
noncomputable def o3 : Array Oper := cO c3
@[simp] def g3_2 {R : Type} (k : Nat) (G : KT1 R) (v5 v8 : GV) (h : Heap) : Option R := (kpick v5 v8 (.bool false)).bind fun v9 => G .nrm v9 h
theorem g3_2_eq (G : KT1 R) (σ : GS) (h : Heap) : kgroups PP cfg NN HH 10 o3 [(none, [6, 7])] σ h (fun σ h => G .nrm (σ 2) h) = g3_2 k G (σ 5) (σ 8) h := by kernel_rfl
@[simp] def g3_1 (G : KT1 R) (v0 v5 : GV) (h : Heap) : Option R := bif tr true v5 then (kN NN fn.impl_in [v0, (.int .i64 55296), (.int .i64 57343)] h).bind fun v7 => (kun .not v7).bind fun v8 => g3_2 k G v5 v8 h else g3_2 k G v5 .un h
theorem g3_1_eq (G : KT1 R) (σ : GS) (h : Heap) : kgroups PP cfg NN HH 10 o3 [(some (2, true), [3, 4, 5]), (none, [6, 7])] σ h (fun σ h => G .nrm (σ 2) h) = g3_1 k G (σ 0) (σ 5) h := (kgroups_cons (fun σ h => g3_2_eq k G σ h)).trans (by kernel_rfl)
@[simp] def g3_0 (G : KT1 R) (v0 : GV) (h : Heap) : Option R := (kN NN fn.impl_in [v0, (.int .i64 0), (.int .i64 1114111)] h).bind fun v4 => g3_1 k G v0 v4 h
theorem g3_0_eq (G : KT1 R) (σ : GS) (h : Heap) : kgroups PP cfg NN HH 10 o3 [(none, [0, 1, 2]), (some (2, true), [3, 4, 5]), (none, [6, 7])] σ h (fun σ h => G .nrm (σ 2) h) = g3_0 k G (σ 0) h := (kgroups_cons (fun σ h => g3_1_eq k G σ h)).trans (by kernel_rfl)
@[simp] def n3 (G : KT1 R) (v0 : GV) (h : Heap) : Option R := g3_0 k G v0 h
theorem n3_eq (G : KT1 R) (σ : GS) (h : Heap) : KC k 10 c3 σ h (fun x σ h => G x (σ 2) h) = n3 k G (σ 0) h := (kregion_eq (id := 1) (draw := false) (ops := o3) (gs := [(none, [0, 1, 2]), (some (2, true), [3, 4, 5]), (none, [6, 7])]) (by kernel_rfl) (by kernel_rfl) (by kernel_rfl)).trans (g3_0_eq k G σ h)
@[simp] def n1 (G : KT1 R) (v0 : GV) (h : Heap) : Option R := n3 k (fun x v2 h => kx x (n2 k G v2 h) (G x v2 h)) v0 h
theorem n1_eq (G : KT1 R) (σ : GS) (h : Heap) : KC k 10 c1 σ h (fun x σ h => G x (σ 2) h) = n1 k G (σ 0) h := (kseq (b := c2) rfl (fun σ h => n2_eq k G σ h)).trans (n3_eq k (fun x v2 h => kx x (n2 k G v2 h) (G x v2 h)) σ h)
noncomputable def c4 : Code := cL c0
@[simp] def n0 (G : KT1 R) (v0 : GV) (h : Heap) : Option R := n1 k G v0 h
theorem n0_eq (G : KT1 R) (σ : GS) (h : Heap) : KC k 10 c0 σ h (fun x σ h => G x (σ 2) h) = n0 k G (σ 0) h := (kseq (a := c4) (b := c1) rfl (fun σ h => n1_eq k G σ h)).trans (by kernel_rfl)
def run {R : Type} (k : Nat) (a0 : GV) (h : Heap) (fin : GV → Heap → Option R) : Option R := n0 k (fun x v2 h => kend x (fin v2 h)) a0 h
theorem run_eq {R : Type} (k : Nat) (a0 : GV) (h : Heap) (fin : GV → Heap → Option R) : kfun PP cfg NN HH k fn.impl_RuneOk [a0] h fin = run k a0 h fin := (kfun_eq (nt := 10) (c := c0) (show PP.funcs[fn.impl_RuneOk]? = some Try.f224 by kernel_rfl) (by kernel_rfl) (by kernel_rfl) (fun x σ h => by cases x <;> kernel_rfl)).trans (n0_eq k (fun x v2 h => kend x (fin v2 h)) _ h)
theorem gives {k : Nat} {a0 : GV} {v : GV} (e : run k a0 [] finN = some v) : NN fn.impl_RuneOk [a0] = some v := nω_of (by kernel_rfl) ((run_eq k a0 [] finN).trans e)
end S.impl_RuneOk
/-! spec_RuneOk -/
namespace S.spec_RuneOk
noncomputable def c0 : Code := bodyOf Try.f93
noncomputable def c1 : Code := cR c0
noncomputable def c2 : Code := cR c1
@[simp] def n2 {R : Type} (k : Nat) (G : KT1 R) (v2 : GV) (h : Heap) : Option R := G .ret v2 h
theorem n2_eq (G : KT1 R) (σ : GS) (h : Heap) : KC k 10 c2 σ h (fun x σ h => G x (σ 2) h) = n2 k G (σ 2) h := by kernel_rfl
noncomputable def c3 : Code := cL c1
noncomputable def o3 : Array Oper := cO c3
@[simp] def g3_2 {R : Type} (k : Nat) (G : KT1 R) (v5 v8 : GV) (h : Heap) : Option R := (kpick v5 v8 (.bool false)).bind fun v9 => G .nrm v9 h
theorem g3_2_eq (G : KT1 R) (σ : GS) (h : Heap) : kgroups PP cfg NN HH 10 o3 [(none, [6, 7])] σ h (fun σ h => G .nrm (σ 2) h) = g3_2 k G (σ 5) (σ 8) h := by kernel_rfl
@[simp] def g3_1 (G : KT1 R) (v0 v5 : GV) (h : Heap) : Option R := bif tr true v5 then (kN NN fn.spec_l1In [v0, (.int .i64 55296), (.int .i64 57343)] h).bind fun v7 => (kun .not v7).bind fun v8 => g3_2 k G v5 v8 h else g3_2 k G v5 .un h
theorem g3_1_eq (G : KT1 R) (σ : GS) (h : Heap) : kgroups PP cfg NN HH 10 o3 [(some (2, true), [3, 4, 5]), (none, [6, 7])] σ h (fun σ h => G .nrm (σ 2) h) = g3_1 k G (σ 0) (σ 5) h := (kgroups_cons (fun σ h => g3_2_eq k G σ h)).trans (by kernel_rfl)
@[simp] def g3_0 (G : KT1 R) (v0 : GV) (h : Heap) : Option R := (kN NN fn.spec_l1In [v0, (.int .i64 0), (.int .i64 1114111)] h).bind fun v4 => g3_1 k G v0 v4 h
theorem g3_0_eq (G : KT1 R) (σ : GS) (h : Heap) : kgroups PP cfg NN HH 10 o3 [(none, [0, 1, 2]), (some (2, true), [3, 4, 5]), (none, [6, 7])] σ h (fun σ h => G .nrm (σ 2) h) = g3_0 k G (σ 0) h := (kgroups_cons (fun σ h => g3_1_eq k G σ h)).trans (by kernel_rfl)
@[simp] def n3 (G : KT1 R) (v0 : GV) (h : Heap) : Option R := g3_0 k G v0 h
theorem n3_eq (G : KT1 R) (σ : GS) (h : Heap) : KC k 10 c3 σ h (fun x σ h => G x (σ 2) h) = n3 k G (σ 0) h := (kregion_eq (id := 1) (draw := false) (ops := o3) (gs := [(none, [0, 1, 2]), (some (2, true), [3, 4, 5]), (none, [6, 7])]) (by kernel_rfl) (by kernel_rfl) (by kernel_rfl)).trans (g3_0_eq k G σ h)
@[simp] def n1 (G : KT1 R) (v0 : GV) (h : Heap) : Option R := n3 k (fun x v2 h => kx x (n2 k G v2 h) (G x v2 h)) v0 h
theorem n1_eq (G : KT1 R) (σ : GS) (h : Heap) : KC k 10 c1 σ h (fun x σ h => G x (σ 2) h) = n1 k G (σ 0) h := (kseq (b := c2) rfl (fun σ h => n2_eq k G σ h)).trans (n3_eq k (fun x v2 h => kx x (n2 k G v2 h) (G x v2 h)) σ h)
noncomputable def c4 : Code := cL c0
@[simp] def n0 (G : KT1 R) (v0 : GV) (h : Heap) : Option R := n1 k G v0 h
theorem n0_eq (G : KT1 R) (σ : GS) (h : Heap) : KC k 10 c0 σ h (fun x σ h => G x (σ 2) h) = n0 k G (σ 0) h := (kseq (a := c4) (b := c1) rfl (fun σ h => n1_eq k G σ h)).trans (by kernel_rfl)
def run {R : Type} (k : Nat) (a0 : GV) (h : Heap) (fin : GV → Heap → Option R) : Option R := n0 k (fun x v2 h => kend x (fin v2 h)) a0 h
theorem run_eq {R : Type} (k : Nat) (a0 : GV) (h : Heap) (fin : GV → Heap → Option R) : kfun PP cfg NN HH k fn.spec_RuneOk [a0] h fin = run k a0 h fin := (kfun_eq (nt := 10) (c := c0) (show PP.funcs[fn.spec_RuneOk]? = some Try.f93 by kernel_rfl) (by kernel_rfl) (by kernel_rfl) (fun x σ h => by cases x <;> kernel_rfl)).trans (n0_eq k (fun x v2 h => kend x (fin v2 h)) _ h)
theorem gives {k : Nat} {a0 : GV} {v : GV} (e : run k a0 [] finN = some v) : NN fn.spec_RuneOk [a0] = some v := nω_of (by kernel_rfl) ((run_eq k a0 [] finN).trans e)
end S.spec_RuneOk
/-! impl_Width -/
namespace S.impl_Width
noncomputable def c0 : Code := bodyOf Try.f265
noncomputable def c1 : Code := cR c0
noncomputable def c2 : Code := cR c1
@[simp] def n2 {R : Type} (k : Nat) (G : KT1 R) (h : Heap) : Option R := G .ret (.int .i64 1) h
theorem n2_eq (G : KT1 R) (σ : GS) (h : Heap) : KC k 30 c2 σ h (fun x σ h => G x (σ 2) h) = n2 k G h := by kernel_rfl
noncomputable def c3 : Code := cL c1
noncomputable def c4 : Code := cL c3
noncomputable def c5 : Code := cR c4
noncomputable def c6 : Code := cL c5
@[simp] def n6 {R : Type} (k : Nat) (G : KT1 R) (h : Heap) : Option R := G .ret (.int .i64 0) h
theorem n6_eq (G : KT1 R) (σ : GS) (h : Heap) : KC k 30 c6 σ h (fun x σ h => G x (σ 2) h) = n6 k G h := by kernel_rfl
noncomputable def c7 : Code := cR c5
noncomputable def c8 : Code := cR c7
@[simp] def n8 {R : Type} (k : Nat) (G : KT1 R) (v2 v19 : GV) (h : Heap) : Option R := kcond v19 (G .ret (.int .i64 2) h) (G .nrm v2 h)
theorem n8_eq (G : KT1 R) (σ : GS) (h : Heap) : KC k 30 c8 σ h (fun x σ h => G x (σ 2) h) = n8 k G (σ 2) (σ 19) h := by kernel_rfl
noncomputable def c9 : Code := cL c7
noncomputable def o9 : Array Oper := cO c9
@[simp] def g9_4 {R : Type} (k : Nat) (G : KT2 R) (v2 v26 v28 : GV) (h : Heap) : Option R := (kpick v26 (.bool true) v28).bind fun v29 => G .nrm v2 v29 h
theorem g9_4_eq (G : KT2 R) (σ : GS) (h : Heap) : kgroups PP cfg NN HH 30 o9 [(none, [9, 10])] σ h (fun σ h => G .nrm (σ 2) (σ 19) h) = g9_4 k G (σ 2) (σ 26) (σ 28) h := by kernel_rfl
@[simp] def g9_3 (G : KT2 R) (v0 v2 v26 : GV) (h : Heap) : Option R := bif tr false v26 then (kN NN fn.impl_in [v0, (.int .i64 127744), (.int .i64 131071)] h).bind fun v28 => g9_4 k G v2 v26 v28 h else g9_4 k G v2 v26 .un h
theorem g9_3_eq (G : KT2 R) (σ : GS) (h : Heap) : kgroups PP cfg NN HH 30 o9 [(some (6, false), [7, 8]), (none, [9, 10])] σ h (fun σ h => G .nrm (σ 2) (σ 19) h) = g9_3 k G (σ 0) (σ 2) (σ 26) h := (kgroups_cons (fun σ h => g9_4_eq k G σ h)).trans (by kernel_rfl)
@[simp] def g9_2 (G : KT2 R) (v0 v2 v22 v24 : GV) (h : Heap) : Option R := (kpick v22 (.bool true) v24).bind fun v25 => g9_3 k G v0 v2 v25 h
theorem g9_2_eq (G : KT2 R) (σ : GS) (h : Heap) : kgroups PP cfg NN HH 30 o9 [(none, [5, 6]), (some (6, false), [7, 8]), (none, [9, 10])] σ h (fun σ h => G .nrm (σ 2) (σ 19) h) = g9_2 k G (σ 0) (σ 2) (σ 22) (σ 24) h := (kgroups_cons (fun σ h => g9_3_eq k G σ h)).trans (by kernel_rfl)
@[simp] def g9_1 (G : KT2 R) (v0 v2 v22 : GV) (h : Heap) : Option R := bif tr false v22 then (kN NN fn.impl_in [v0, (.int .i64 12288), (.int .i64 55295)] h).bind fun v24 => g9_2 k G v0 v2 v22 v24 h else g9_2 k G v0 v2 v22 .un h
theorem g9_1_eq (G : KT2 R) (σ : GS) (h : Heap) : kgroups PP cfg NN HH 30 o9 [(some (2, false), [3, 4]), (none, [5, 6]), (some (6, false), [7, 8]), (none, [9, 10])] σ h (fun σ h => G .nrm (σ 2) (σ 19) h) = g9_1 k G (σ 0) (σ 2) (σ 22) h := (kgroups_cons (fun σ h => g9_2_eq k G σ h)).trans (by kernel_rfl)
@[simp] def g9_0 (G : KT2 R) (v0 v2 : GV) (h : Heap) : Option R := (kN NN fn.impl_in [v0, (.int .i64 4352), (.int .i64 4447)] h).bind fun v21 => g9_1 k G v0 v2 v21 h
theorem g9_0_eq (G : KT2 R) (σ : GS) (h : Heap) : kgroups PP cfg NN HH 30 o9 [(none, [0, 1, 2]), (some (2, false), [3, 4]), (none, [5, 6]), (some (6, false), [7, 8]), (none, [9, 10])] σ h (fun σ h => G .nrm (σ 2) (σ 19) h) = g9_0 k G (σ 0) (σ 2) h := (kgroups_cons (fun σ h => g9_1_eq k G σ h)).trans (by kernel_rfl)
@[simp] def n9 (G : KT2 R) (v0 v2 : GV) (h : Heap) : Option R := g9_0 k G v0 v2 h
theorem n9_eq (G : KT2 R) (σ : GS) (h : Heap) : KC k 30 c9 σ h (fun x σ h => G x (σ 2) (σ 19) h) = n9 k G (σ 0) (σ 2) h := (kregion_eq (id := 3) (draw := false) (ops := o9) (gs := [(none, [0, 1, 2]), (some (2, false), [3, 4]), (none, [5, 6]), (some (6, false), [7, 8]), (none, [9, 10])]) (by kernel_rfl) (by kernel_rfl) (by kernel_rfl)).trans (g9_0_eq k G σ h)
@[simp] def n7 (G : KT1 R) (v0 v2 : GV) (h : Heap) : Option R := n9 k (fun x v2 v19 h => kx x (n8 k G v2 v19 h) (G x v2 h)) v0 v2 h
theorem n7_eq (G : KT1 R) (σ : GS) (h : Heap) : KC k 30 c7 σ h (fun x σ h => G x (σ 2) h) = n7 k G (σ 0) (σ 2) h := (kseq (b := c8) rfl (fun σ h => n8_eq k G σ h)).trans (n9_eq k (fun x v2 v19 h => kx x (n8 k G v2 v19 h) (G x v2 h)) σ h)
@[simp] def n5 (G : KT1 R) (v0 v2 v3 : GV) (h : Heap) : Option R := kcond v3 (n6 k G h) (n7 k G v0 v2 h)
theorem n5_eq (G : KT1 R) (σ : GS) (h : Heap) : KC k 30 c5 σ h (fun x σ h => G x (σ 2) h) = n5 k G (σ 0) (σ 2) (σ 3) h := (kcond_eq (a := c6) (b := c7) rfl (by rfl)).trans (congr (congrArg (kcond (σ 3)) (n6_eq k G σ h)) (n7_eq k G σ h))
noncomputable def c10 : Code := cL c4
noncomputable def o10 : Array Oper := cO c10
@[simp] def g10_6 {R : Type} (k : Nat) (G : KT3 R) (v0 v2 v15 v17 : GV) (h : Heap) : Option R := (kpick v15 (.bool true) v17).bind fun v18 => G .nrm v0 v2 v18 h
theorem g10_6_eq (G : KT3 R) (σ : GS) (h : Heap) : kgroups PP cfg NN HH 30 o10 [(none, [14, 15])] σ h (fun σ h => G .nrm (σ 0) (σ 2) (σ 3) h) = g10_6 k G (σ 0) (σ 2) (σ 15) (σ 17) h := by kernel_rfl
@[simp] def g10_5 (G : KT3 R) (v0 v2 v15 : GV) (h : Heap) : Option R := bif tr false v15 then (kN NN fn.impl_in [v0, (.int .i64 768), (.int .i64 879)] h).bind fun v17 => g10_6 k G v0 v2 v15 v17 h else g10_6 k G v0 v2 v15 .un h
theorem g10_5_eq (G : KT3 R) (σ : GS) (h : Heap) : kgroups PP cfg NN HH 30 o10 [(some (11, false), [12, 13]), (none, [14, 15])] σ h (fun σ h => G .nrm (σ 0) (σ 2) (σ 3) h) = g10_5 k G (σ 0) (σ 2) (σ 15) h := (kgroups_cons (fun σ h => g10_6_eq k G σ h)).trans (by kernel_rfl)
@[simp] def g10_4 (G : KT3 R) (v0 v2 v11 v13 : GV) (h : Heap) : Option R := (kpick v11 (.bool true) v13).bind fun v14 => g10_5 k G v0 v2 v14 h
theorem g10_4_eq (G : KT3 R) (σ : GS) (h : Heap) : kgroups PP cfg NN HH 30 o10 [(none, [10, 11]), (some (11, false), [12, 13]), (none, [14, 15])] σ h (fun σ h => G .nrm (σ 0) (σ 2) (σ 3) h) = g10_4 k G (σ 0) (σ 2) (σ 11) (σ 13) h := (kgroups_cons (fun σ h => g10_5_eq k G σ h)).trans (by kernel_rfl)
@[simp] def g10_3 (G : KT3 R) (v0 v2 v11 : GV) (h : Heap) : Option R := bif tr false v11 then (kN NN fn.impl_in [v0, (.int .i64 127), (.int .i64 159)] h).bind fun v13 => g10_4 k G v0 v2 v11 v13 h else g10_4 k G v0 v2 v11 .un h
theorem g10_3_eq (G : KT3 R) (σ : GS) (h : Heap) : kgroups PP cfg NN HH 30 o10 [(some (7, false), [8, 9]), (none, [10, 11]), (some (11, false), [12, 13]), (none, [14, 15])] σ h (fun σ h => G .nrm (σ 0) (σ 2) (σ 3) h) = g10_3 k G (σ 0) (σ 2) (σ 11) h := (kgroups_cons (fun σ h => g10_4_eq k G σ h)).trans (by kernel_rfl)
@[simp] def g10_2 (G : KT3 R) (v0 v2 v7 v9 : GV) (h : Heap) : Option R := (kpick v7 (.bool true) v9).bind fun v10 => g10_3 k G v0 v2 v10 h
theorem g10_2_eq (G : KT3 R) (σ : GS) (h : Heap) : kgroups PP cfg NN HH 30 o10 [(none, [6, 7]), (some (7, false), [8, 9]), (none, [10, 11]), (some (11, false), [12, 13]), (none, [14, 15])] σ h (fun σ h => G .nrm (σ 0) (σ 2) (σ 3) h) = g10_2 k G (σ 0) (σ 2) (σ 7) (σ 9) h := (kgroups_cons (fun σ h => g10_3_eq k G σ h)).trans (by kernel_rfl)
@[simp] def g10_1 (G : KT3 R) (v0 v2 v7 : GV) (h : Heap) : Option R := bif tr false v7 then (kbin .lss v0 (.int .i64 32)).bind fun v9 => g10_2 k G v0 v2 v7 v9 h else g10_2 k G v0 v2 v7 .un h
theorem g10_1_eq (G : KT3 R) (σ : GS) (h : Heap) : kgroups PP cfg NN HH 30 o10 [(some (3, false), [4, 5]), (none, [6, 7]), (some (7, false), [8, 9]), (none, [10, 11]), (some (11, false), [12, 13]), (none, [14, 15])] σ h (fun σ h => G .nrm (σ 0) (σ 2) (σ 3) h) = g10_1 k G (σ 0) (σ 2) (σ 7) h := (kgroups_cons (fun σ h => g10_2_eq k G σ h)).trans (by kernel_rfl)
@[simp] def g10_0 (G : KT3 R) (v0 v2 : GV) (h : Heap) : Option R := (kN NN fn.impl_RuneOk [v0] h).bind fun v5 => (kun .not v5).bind fun v6 => g10_1 k G v0 v2 v6 h
theorem g10_0_eq (G : KT3 R) (σ : GS) (h : Heap) : kgroups PP cfg NN HH 30 o10 [(none, [0, 1, 2, 3]), (some (3, false), [4, 5]), (none, [6, 7]), (some (7, false), [8, 9]), (none, [10, 11]), (some (11, false), [12, 13]), (none, [14, 15])] σ h (fun σ h => G .nrm (σ 0) (σ 2) (σ 3) h) = g10_0 k G (σ 0) (σ 2) h := (kgroups_cons (fun σ h => g10_1_eq k G σ h)).trans (by kernel_rfl)
@[simp] def n10 (G : KT3 R) (v0 v2 : GV) (h : Heap) : Option R := g10_0 k G v0 v2 h
theorem n10_eq (G : KT3 R) (σ : GS) (h : Heap) : KC k 30 c10 σ h (fun x σ h => G x (σ 0) (σ 2) (σ 3) h) = n10 k G (σ 0) (σ 2) h := (kregion_eq (id := 1) (draw := false) (ops := o10) (gs := [(none, [0, 1, 2, 3]), (some (3, false), [4, 5]), (none, [6, 7]), (some (7, false), [8, 9]), (none, [10, 11]), (some (11, false), [12, 13]), (none, [14, 15])]) (by kernel_rfl) (by kernel_rfl) (by kernel_rfl)).trans (g10_0_eq k G σ h)
@[simp] def n4 (G : KT1 R) (v0 v2 : GV) (h : Heap) : Option R := n10 k (fun x v0 v2 v3 h => kx x (n5 k G v0 v2 v3 h) (G x v2 h)) v0 v2 h
theorem n4_eq (G : KT1 R) (σ : GS) (h : Heap) : KC k 30 c4 σ h (fun x σ h => G x (σ 2) h) = n4 k G (σ 0) (σ 2) h := (kseq (b := c5) rfl (fun σ h => n5_eq k G σ h)).trans (n10_eq k (fun x v0 v2 v3 h => kx x (n5 k G v0 v2 v3 h) (G x v2 h)) σ h)
@[simp] def n3 (G : KT1 R) (v0 v2 : GV) (h : Heap) : Option R := n4 k (fun x v2 h => kb 0 x fun x => G x v2 h) v0 v2 h
theorem n3_eq (G : KT1 R) (σ : GS) (h : Heap) : KC k 30 c3 σ h (fun x σ h => G x (σ 2) h) = n3 k G (σ 0) (σ 2) h := (kblock_eq (a := c4) rfl).trans (n4_eq k (fun x v2 h => kb 0 x fun x => G x v2 h) σ h)
@[simp] def n1 (G : KT1 R) (v0 v2 : GV) (h : Heap) : Option R := n3 k (fun x v2 h => kx x (n2 k G h) (G x v2 h)) v0 v2 h
theorem n1_eq (G : KT1 R) (σ : GS) (h : Heap) : KC k 30 c1 σ h (fun x σ h => G x (σ 2) h) = n1 k G (σ 0) (σ 2) h := (kseq (b := c2) rfl (fun σ h => n2_eq k G σ h)).trans (n3_eq k (fun x v2 h => kx x (n2 k G h) (G x v2 h)) σ h)
noncomputable def c11 : Code := cL c0
@[simp] def n0 (G : KT1 R) (v0 : GV) (h : Heap) : Option R := n1 k G v0 (.int .i64 0) h
theorem n0_eq (G : KT1 R) (σ : GS) (h : Heap) : KC k 30 c0 σ h (fun x σ h => G x (σ 2) h) = n0 k G (σ 0) h := (kseq (a := c11) (b := c1) rfl (fun σ h => n1_eq k G σ h)).trans (by kernel_rfl)
def run {R : Type} (k : Nat) (a0 : GV) (h : Heap) (fin : GV → Heap → Option R) : Option R := n0 k (fun x v2 h => kend x (fin v2 h)) a0 h
theorem run_eq {R : Type} (k : Nat) (a0 : GV) (h : Heap) (fin : GV → Heap → Option R) : kfun PP cfg NN HH k fn.impl_Width [a0] h fin = run k a0 h fin := (kfun_eq (nt := 30) (c := c0) (show PP.funcs[fn.impl_Width]? = some Try.f265 by kernel_rfl) (by kernel_rfl) (by kernel_rfl) (fun x σ h => by cases x <;> kernel_rfl)).trans (n0_eq k (fun x v2 h => kend x (fin v2 h)) _ h)
theorem gives {k : Nat} {a0 : GV} {v : GV} (e : run k a0 [] finN = some v) : NN fn.impl_Width [a0] = some v := nω_of (by kernel_rfl) ((run_eq k a0 [] finN).trans e)
end S.impl_Width
/-! spec_Width -/
namespace S.spec_Width
noncomputable def c0 : Code := bodyOf Try.f222
noncomputable def c1 : Code := cR c0
noncomputable def c2 : Code := cR c1
@[simp] def n2 {R : Type} (k : Nat) (G : KT1 R) (h : Heap) : Option R := G .ret (.int .i64 1) h
theorem n2_eq (G : KT1 R) (σ : GS) (h : Heap) : KC k 30 c2 σ h (fun x σ h => G x (σ 2) h) = n2 k G h := by kernel_rfl
noncomputable def c3 : Code := cL c1
noncomputable def c4 : Code := cL c3
noncomputable def c5 : Code := cR c4
noncomputable def c6 : Code := cL c5
@[simp] def n6 {R : Type} (k : Nat) (G : KT1 R) (h : Heap) : Option R := G .ret (.int .i64 0) h
theorem n6_eq (G : KT1 R) (σ : GS) (h : Heap) : KC k 30 c6 σ h (fun x σ h => G x (σ 2) h) = n6 k G h := by kernel_rfl
noncomputable def c7 : Code := cR c5
noncomputable def c8 : Code := cR c7
@[simp] def n8 {R : Type} (k : Nat) (G : KT1 R) (v2 v19 : GV) (h : Heap) : Option R := kcond v19 (G .ret (.int .i64 2) h) (G .nrm v2 h)
theorem n8_eq (G : KT1 R) (σ : GS) (h : Heap) : KC k 30 c8 σ h (fun x σ h => G x (σ 2) h) = n8 k G (σ 2) (σ 19) h := by kernel_rfl
noncomputable def c9 : Code := cL c7
noncomputable def o9 : Array Oper := cO c9
@[simp] def g9_4 {R : Type} (k : Nat) (G : KT2 R) (v2 v26 v28 : GV) (h : Heap) : Option R := (kpick v26 (.bool true) v28).bind fun v29 => G .nrm v2 v29 h
theorem g9_4_eq (G : KT2 R) (σ : GS) (h : Heap) : kgroups PP cfg NN HH 30 o9 [(none, [9, 10])] σ h (fun σ h => G .nrm (σ 2) (σ 19) h) = g9_4 k G (σ 2) (σ 26) (σ 28) h := by kernel_rfl
@[simp] def g9_3 (G : KT2 R) (v0 v2 v26 : GV) (h : Heap) : Option R := bif tr false v26 then (kN NN fn.spec_l1In [v0, (.int .i64 127744), (.int .i64 131071)] h).bind fun v28 => g9_4 k G v2 v26 v28 h else g9_4 k G v2 v26 .un h
theorem g9_3_eq (G : KT2 R) (σ : GS) (h : Heap) : kgroups PP cfg NN HH 30 o9 [(some (6, false), [7, 8]), (none, [9, 10])] σ h (fun σ h => G .nrm (σ 2) (σ 19) h) = g9_3 k G (σ 0) (σ 2) (σ 26) h := (kgroups_cons (fun σ h => g9_4_eq k G σ h)).trans (by kernel_rfl)
@[simp] def g9_2 (G : KT2 R) (v0 v2 v22 v24 : GV) (h : Heap) : Option R := (kpick v22 (.bool true) v24).bind fun v25 => g9_3 k G v0 v2 v25 h
theorem g9_2_eq (G : KT2 R) (σ : GS) (h : Heap) : kgroups PP cfg NN HH 30 o9 [(none, [5, 6]), (some (6, false), [7, 8]), (none, [9, 10])] σ h (fun σ h => G .nrm (σ 2) (σ 19) h) = g9_2 k G (σ 0) (σ 2) (σ 22) (σ 24) h := (kgroups_cons (fun σ h => g9_3_eq k G σ h)).trans (by kernel_rfl)
@[simp] def g9_1 (G : KT2 R) (v0 v2 v22 : GV) (h : Heap) : Option R := bif tr false v22 then (kN NN fn.spec_l1In [v0, (.int .i64 12288), (.int .i64 55295)] h).bind fun v24 => g9_2 k G v0 v2 v22 v24 h else g9_2 k G v0 v2 v22 .un h
theorem g9_1_eq (G : KT2 R) (σ : GS) (h : Heap) : kgroups PP cfg NN HH 30 o9 [(some (2, false), [3, 4]), (none, [5, 6]), (some (6, false), [7, 8]), (none, [9, 10])] σ h (fun σ h => G .nrm (σ 2) (σ 19) h) = g9_1 k G (σ 0) (σ 2) (σ 22) h := (kgroups_cons (fun σ h => g9_2_eq k G σ h)).trans (by kernel_rfl)
@[simp] def g9_0 (G : KT2 R) (v0 v2 : GV) (h : Heap) : Option R := (kN NN fn.spec_l1In [v0, (.int .i64 4352), (.int .i64 4447)] h).bind fun v21 => g9_1 k G v0 v2 v21 h
theorem g9_0_eq (G : KT2 R) (σ : GS) (h : Heap) : kgroups PP cfg NN HH 30 o9 [(none, [0, 1, 2]), (some (2, false), [3, 4]), (none, [5, 6]), (some (6, false), [7, 8]), (none, [9, 10])] σ h (fun σ h => G .nrm (σ 2) (σ 19) h) = g9_0 k G (σ 0) (σ 2) h := (kgroups_cons (fun σ h => g9_1_eq k G σ h)).trans (by kernel_rfl)
@[simp] def n9 (G : KT2 R) (v0 v2 : GV) (h : Heap) : Option R := g9_0 k G v0 v2 h
theorem n9_eq (G : KT2 R) (σ : GS) (h : Heap) : KC k 30 c9 σ h (fun x σ h => G x (σ 2) (σ 19) h) = n9 k G (σ 0) (σ 2) h := (kregion_eq (id := 3) (draw := false) (ops := o9) (gs := [(none, [0, 1, 2]), (some (2, false), [3, 4]), (none, [5, 6]), (some (6, false), [7, 8]), (none, [9, 10])]) (by kernel_rfl) (by kernel_rfl) (by kernel_rfl)).trans (g9_0_eq k G σ h)
@[simp] def n7 (G : KT1 R) (v0 v2 : GV) (h : Heap) : Option R := n9 k (fun x v2 v19 h => kx x (n8 k G v2 v19 h) (G x v2 h)) v0 v2 h
theorem n7_eq (G : KT1 R) (σ : GS) (h : Heap) : KC k 30 c7 σ h (fun x σ h => G x (σ 2) h) = n7 k G (σ 0) (σ 2) h := (kseq (b := c8) rfl (fun σ h => n8_eq k G σ h)).trans (n9_eq k (fun x v2 v19 h => kx x (n8 k G v2 v19 h) (G x v2 h)) σ h)
@[simp] def n5 (G : KT1 R) (v0 v2 v3 : GV) (h : Heap) : Option R := kcond v3 (n6 k G h) (n7 k G v0 v2 h)
theorem n5_eq (G : KT1 R) (σ : GS) (h : Heap) : KC k 30 c5 σ h (fun x σ h => G x (σ 2) h) = n5 k G (σ 0) (σ 2) (σ 3) h := (kcond_eq (a := c6) (b := c7) rfl (by rfl)).trans (congr (congrArg (kcond (σ 3)) (n6_eq k G σ h)) (n7_eq k G σ h))
noncomputable def c10 : Code := cL c4
noncomputable def o10 : Array Oper := cO c10
@[simp] def g10_6 {R : Type} (k : Nat) (G : KT3 R) (v0 v2 v15 v17 : GV) (h : Heap) : Option R := (kpick v15 (.bool true) v17).bind fun v18 => G .nrm v0 v2 v18 h
theorem g10_6_eq (G : KT3 R) (σ : GS) (h : Heap) : kgroups PP cfg NN HH 30 o10 [(none, [14, 15])] σ h (fun σ h => G .nrm (σ 0) (σ 2) (σ 3) h) = g10_6 k G (σ 0) (σ 2) (σ 15) (σ 17) h := by kernel_rfl
@[simp] def g10_5 (G : KT3 R) (v0 v2 v15 : GV) (h : Heap) : Option R := bif tr false v15 then (kN NN fn.spec_l1In [v0, (.int .i64 768), (.int .i64 879)] h).bind fun v17 => g10_6 k G v0 v2 v15 v17 h else g10_6 k G v0 v2 v15 .un h
theorem g10_5_eq (G : KT3 R) (σ : GS) (h : Heap) : kgroups PP cfg NN HH 30 o10 [(some (11, false), [12, 13]), (none, [14, 15])] σ h (fun σ h => G .nrm (σ 0) (σ 2) (σ 3) h) = g10_5 k G (σ 0) (σ 2) (σ 15) h := (kgroups_cons (fun σ h => g10_6_eq k G σ h)).trans (by kernel_rfl)
@[simp] def g10_4 (G : KT3 R) (v0 v2 v11 v13 : GV) (h : Heap) : Option R := (kpick v11 (.bool true) v13).bind fun v14 => g10_5 k G v0 v2 v14 h
theorem g10_4_eq (G : KT3 R) (σ : GS) (h : Heap) : kgroups PP cfg NN HH 30 o10 [(none, [10, 11]), (some (11, false), [12, 13]), (none, [14, 15])] σ h (fun σ h => G .nrm (σ 0) (σ 2) (σ 3) h) = g10_4 k G (σ 0) (σ 2) (σ 11) (σ 13) h := (kgroups_cons (fun σ h => g10_5_eq k G σ h)).trans (by kernel_rfl)
@[simp] def g10_3 (G : KT3 R) (v0 v2 v11 : GV) (h : Heap) : Option R := bif tr false v11 then (kN NN fn.spec_l1In [v0, (.int .i64 127), (.int .i64 159)] h).bind fun v13 => g10_4 k G v0 v2 v11 v13 h else g10_4 k G v0 v2 v11 .un h
theorem g10_3_eq (G : KT3 R) (σ : GS) (h : Heap) : kgroups PP cfg NN HH 30 o10 [(some (7, false), [8, 9]), (none, [10, 11]), (some (11, false), [12, 13]), (none, [14, 15])] σ h (fun σ h => G .nrm (σ 0) (σ 2) (σ 3) h) = g10_3 k G (σ 0) (σ 2) (σ 11) h := (kgroups_cons (fun σ h => g10_4_eq k G σ h)).trans (by kernel_rfl)
@[simp] def g10_2 (G : KT3 R) (v0 v2 v7 v9 : GV) (h : Heap) : Option R := (kpick v7 (.bool true) v9).bind fun v10 => g10_3 k G v0 v2 v10 h
theorem g10_2_eq (G : KT3 R) (σ : GS) (h : Heap) : kgroups PP cfg NN HH 30 o10 [(none, [6, 7]), (some (7, false), [8, 9]), (none, [10, 11]), (some (11, false), [12, 13]), (none, [14, 15])] σ h (fun σ h => G .nrm (σ 0) (σ 2) (σ 3) h) = g10_2 k G (σ 0) (σ 2) (σ 7) (σ 9) h := (kgroups_cons (fun σ h => g10_3_eq k G σ h)).trans (by kernel_rfl)
@[simp] def g10_1 (G : KT3 R) (v0 v2 v7 : GV) (h : Heap) : Option R := bif tr false v7 then (kbin .lss v0 (.int .i64 32)).bind fun v9 => g10_2 k G v0 v2 v7 v9 h else g10_2 k G v0 v2 v7 .un h
theorem g10_1_eq (G : KT3 R) (σ : GS) (h : Heap) : kgroups PP cfg NN HH 30 o10 [(some (3, false), [4, 5]), (none, [6, 7]), (some (7, false), [8, 9]), (none, [10, 11]), (some (11, false), [12, 13]), (none, [14, 15])] σ h (fun σ h => G .nrm (σ 0) (σ 2) (σ 3) h) = g10_1 k G (σ 0) (σ 2) (σ 7) h := (kgroups_cons (fun σ h => g10_2_eq k G σ h)).trans (by kernel_rfl)
@[simp] def g10_0 (G : KT3 R) (v0 v2 : GV) (h : Heap) : Option R := (kN NN fn.spec_RuneOk [v0] h).bind fun v5 => (kun .not v5).bind fun v6 => g10_1 k G v0 v2 v6 h
theorem g10_0_eq (G : KT3 R) (σ : GS) (h : Heap) : kgroups PP cfg NN HH 30 o10 [(none, [0, 1, 2, 3]), (some (3, false), [4, 5]), (none, [6, 7]), (some (7, false), [8, 9]), (none, [10, 11]), (some (11, false), [12, 13]), (none, [14, 15])] σ h (fun σ h => G .nrm (σ 0) (σ 2) (σ 3) h) = g10_0 k G (σ 0) (σ 2) h := (kgroups_cons (fun σ h => g10_1_eq k G σ h)).trans (by kernel_rfl)
@[simp] def n10 (G : KT3 R) (v0 v2 : GV) (h : Heap) : Option R := g10_0 k G v0 v2 h
theorem n10_eq (G : KT3 R) (σ : GS) (h : Heap) : KC k 30 c10 σ h (fun x σ h => G x (σ 0) (σ 2) (σ 3) h) = n10 k G (σ 0) (σ 2) h := (kregion_eq (id := 1) (draw := false) (ops := o10) (gs := [(none, [0, 1, 2, 3]), (some (3, false), [4, 5]), (none, [6, 7]), (some (7, false), [8, 9]), (none, [10, 11]), (some (11, false), [12, 13]), (none, [14, 15])]) (by kernel_rfl) (by kernel_rfl) (by kernel_rfl)).trans (g10_0_eq k G σ h)
@[simp] def n4 (G : KT1 R) (v0 v2 : GV) (h : Heap) : Option R := n10 k (fun x v0 v2 v3 h => kx x (n5 k G v0 v2 v3 h) (G x v2 h)) v0 v2 h
theorem n4_eq (G : KT1 R) (σ : GS) (h : Heap) : KC k 30 c4 σ h (fun x σ h => G x (σ 2) h) = n4 k G (σ 0) (σ 2) h := (kseq (b := c5) rfl (fun σ h => n5_eq k G σ h)).trans (n10_eq k (fun x v0 v2 v3 h => kx x (n5 k G v0 v2 v3 h) (G x v2 h)) σ h)
@[simp] def n3 (G : KT1 R) (v0 v2 : GV) (h : Heap) : Option R := n4 k (fun x v2 h => kb 0 x fun x => G x v2 h) v0 v2 h
theorem n3_eq (G : KT1 R) (σ : GS) (h : Heap) : KC k 30 c3 σ h (fun x σ h => G x (σ 2) h) = n3 k G (σ 0) (σ 2) h := (kblock_eq (a := c4) rfl).trans (n4_eq k (fun x v2 h => kb 0 x fun x => G x v2 h) σ h)
@[simp] def n1 (G : KT1 R) (v0 v2 : GV) (h : Heap) : Option R := n3 k (fun x v2 h => kx x (n2 k G h) (G x v2 h)) v0 v2 h
theorem n1_eq (G : KT1 R) (σ : GS) (h : Heap) : KC k 30 c1 σ h (fun x σ h => G x (σ 2) h) = n1 k G (σ 0) (σ 2) h := (kseq (b := c2) rfl (fun σ h => n2_eq k G σ h)).trans (n3_eq k (fun x v2 h => kx x (n2 k G h) (G x v2 h)) σ h)
noncomputable def c11 : Code := cL c0
@[simp] def n0 (G : KT1 R) (v0 : GV) (h : Heap) : Option R := n1 k G v0 (.int .i64 0) h
theorem n0_eq (G : KT1 R) (σ : GS) (h : Heap) : KC k 30 c0 σ h (fun x σ h => G x (σ 2) h) = n0 k G (σ 0) h := (kseq (a := c11) (b := c1) rfl (fun σ h => n1_eq k G σ h)).trans (by kernel_rfl)
def run {R : Type} (k : Nat) (a0 : GV) (h : Heap) (fin : GV → Heap → Option R) : Option R := n0 k (fun x v2 h => kend x (fin v2 h)) a0 h
theorem run_eq {R : Type} (k : Nat) (a0 : GV) (h : Heap) (fin : GV → Heap → Option R) : kfun PP cfg NN HH k fn.spec_Width [a0] h fin = run k a0 h fin := (kfun_eq (nt := 30) (c := c0) (show PP.funcs[fn.spec_Width]? = some Try.f222 by kernel_rfl) (by kernel_rfl) (by kernel_rfl) (fun x σ h => by cases x <;> kernel_rfl)).trans (n0_eq k (fun x v2 h => kend x (fin v2 h)) _ h)
theorem gives {k : Nat} {a0 : GV} {v : GV} (e : run k a0 [] finN = some v) : NN fn.spec_Width [a0] = some v := nω_of (by kernel_rfl) ((run_eq k a0 [] finN).trans e)
end S.spec_Width
/-! impl_StyleOk -/
namespace S.impl_StyleOk
noncomputable def c0 : Code := bodyOf Try.f233
noncomputable def c1 : Code := cR c0
noncomputable def c2 : Code := cR c1
@[simp] def n2 {R : Type} (k : Nat) (G : KT1 R) (v2 : GV) (h : Heap) : Option R := G .ret v2 h
theorem n2_eq (G : KT1 R) (σ : GS) (h : Heap) : KC k 11 c2 σ h (fun x σ h => G x (σ 2) h) = n2 k G (σ 2) h := by kernel_rfl
noncomputable def c3 : Code := cL c1
noncomputable def o3 : Array Oper := cO c3
@[simp] def g3_2 {R : Type} (k : Nat) (G : KT1 R) (v6 v9 : GV) (h : Heap) : Option R := (kpick v6 v9 (.bool false)).bind fun v10 => G .nrm v10 h
theorem g3_2_eq (G : KT1 R) (σ : GS) (h : Heap) : kgroups PP cfg NN HH 11 o3 [(none, [7, 8])] σ h (fun σ h => G .nrm (σ 2) h) = g3_2 k G (σ 6) (σ 9) h := by kernel_rfl
@[simp] def g3_1 (G : KT1 R) (v1 v6 : GV) (h : Heap) : Option R := bif tr true v6 then (kfa 1 v1).bind fun v7 => (kload1 h v7).bind fun v8 => (kN NN fn.impl_in [v8, (.int .i64 0), (.int .i64 8)] h).bind fun v9 => g3_2 k G v6 v9 h else g3_2 k G v6 .un h
theorem g3_1_eq (G : KT1 R) (σ : GS) (h : Heap) : kgroups PP cfg NN HH 11 o3 [(some (3, true), [4, 5, 6]), (none, [7, 8])] σ h (fun σ h => G .nrm (σ 2) h) = g3_1 k G (σ 1) (σ 6) h := (kgroups_cons (fun σ h => g3_2_eq k G σ h)).trans (by kernel_rfl)
@[simp] def g3_0 (G : KT1 R) (v1 : GV) (h : Heap) : Option R := (kfa 0 v1).bind fun v3 => (kload1 h v3).bind fun v4 => (kN NN fn.impl_in [v4, (.int .i64 0), (.int .i64 8)] h).bind fun v5 => g3_1 k G v1 v5 h
theorem g3_0_eq (G : KT1 R) (σ : GS) (h : Heap) : kgroups PP cfg NN HH 11 o3 [(none, [0, 1, 2, 3]), (some (3, true), [4, 5, 6]), (none, [7, 8])] σ h (fun σ h => G .nrm (σ 2) h) = g3_0 k G (σ 1) h := (kgroups_cons (fun σ h => g3_1_eq k G σ h)).trans (by kernel_rfl)
@[simp] def n3 (G : KT1 R) (v1 : GV) (h : Heap) : Option R := g3_0 k G v1 h
theorem n3_eq (G : KT1 R) (σ : GS) (h : Heap) : KC k 11 c3 σ h (fun x σ h => G x (σ 2) h) = n3 k G (σ 1) h := (kregion_eq (id := 1) (draw := false) (ops := o3) (gs := [(none, [0, 1, 2, 3]), (some (3, true), [4, 5, 6]), (none, [7, 8])]) (by kernel_rfl) (by kernel_rfl) (by kernel_rfl)).trans (g3_0_eq k G σ h)
@[simp] def n1 (G : KT1 R) (v1 : GV) (h : Heap) : Option R := n3 k (fun x v2 h => kx x (n2 k G v2 h) (G x v2 h)) v1 h
theorem n1_eq (G : KT1 R) (σ : GS) (h : Heap) : KC k 11 c1 σ h (fun x σ h => G x (σ 2) h) = n1 k G (σ 1) h := (kseq (b := c2) rfl (fun σ h => n2_eq k G σ h)).trans (n3_eq k (fun x v2 h => kx x (n2 k G v2 h) (G x v2 h)) σ h)
noncomputable def c4 : Code := cL c0
@[simp] def n0 (G : KT1 R) (v0 : GV) (h : Heap) : Option R := kbox v0 h fun v1 h => n1 k G v1 h
theorem n0_eq (G : KT1 R) (σ : GS) (h : Heap) : KC k 11 c0 σ h (fun x σ h => G x (σ 2) h) = n0 k G (σ 0) h := (kseq (a := c4) (b := c1) rfl (fun σ h => n1_eq k G σ h)).trans (by kernel_rfl)
def run {R : Type} (k : Nat) (a0 : GV) (h : Heap) (fin : GV → Heap → Option R) : Option R := n0 k (fun x v2 h => kend x (fin v2 h)) a0 h
theorem run_eq {R : Type} (k : Nat) (a0 : GV) (h : Heap) (fin : GV → Heap → Option R) : kfun PP cfg NN HH k fn.impl_StyleOk [a0] h fin = run k a0 h fin := (kfun_eq (nt := 11) (c := c0) (show PP.funcs[fn.impl_StyleOk]? = some Try.f233 by kernel_rfl) (by kernel_rfl) (by kernel_rfl) (fun x σ h => by cases x <;> kernel_rfl)).trans (n0_eq k (fun x v2 h => kend x (fin v2 h)) _ h)
theorem gives {k : Nat} {a0 : GV} {v : GV} (e : run k a0 [] finN = some v) : NN fn.impl_StyleOk [a0] = some v := nω_of (by kernel_rfl) ((run_eq k a0 [] finN).trans e)
end S.impl_StyleOk
/-! spec_StyleOk -/
namespace S.spec_StyleOk
noncomputable def c0 : Code := bodyOf Try.f229
noncomputable def c1 : Code := cR c0
noncomputable def c2 : Code := cR c1
@[simp] def n2 {R : Type} (k : Nat) (G : KT1 R) (v2 : GV) (h : Heap) : Option R := G .ret v2 h
theorem n2_eq (G : KT1 R) (σ : GS) (h : Heap) : KC k 11 c2 σ h (fun x σ h => G x (σ 2) h) = n2 k G (σ 2) h := by kernel_rfl
noncomputable def c3 : Code := cL c1
noncomputable def o3 : Array Oper := cO c3
@[simp] def g3_2 {R : Type} (k : Nat) (G : KT1 R) (v6 v9 : GV) (h : Heap) : Option R := (kpick v6 v9 (.bool false)).bind fun v10 => G .nrm v10 h
theorem g3_2_eq (G : KT1 R) (σ : GS) (h : Heap) : kgroups PP cfg NN HH 11 o3 [(none, [7, 8])] σ h (fun σ h => G .nrm (σ 2) h) = g3_2 k G (σ 6) (σ 9) h := by kernel_rfl
@[simp] def g3_1 (G : KT1 R) (v1 v6 : GV) (h : Heap) : Option R := bif tr true v6 then (kfa 1 v1).bind fun v7 => (kload1 h v7).bind fun v8 => (kN NN fn.spec_l1In [v8, (.int .i64 0), (.int .i64 8)] h).bind fun v9 => g3_2 k G v6 v9 h else g3_2 k G v6 .un h
theorem g3_1_eq (G : KT1 R) (σ : GS) (h : Heap) : kgroups PP cfg NN HH 11 o3 [(some (3, true), [4, 5, 6]), (none, [7, 8])] σ h (fun σ h => G .nrm (σ 2) h) = g3_1 k G (σ 1) (σ 6) h := (kgroups_cons (fun σ h => g3_2_eq k G σ h)).trans (by kernel_rfl)
@[simp] def g3_0 (G : KT1 R) (v1 : GV) (h : Heap) : Option R := (kfa 0 v1).bind fun v3 => (kload1 h v3).bind fun v4 => (kN NN fn.spec_l1In [v4, (.int .i64 0), (.int .i64 8)] h).bind fun v5 => g3_1 k G v1 v5 h
theorem g3_0_eq (G : KT1 R) (σ : GS) (h : Heap) : kgroups PP cfg NN HH 11 o3 [(none, [0, 1, 2, 3]), (some (3, true), [4, 5, 6]), (none, [7, 8])] σ h (fun σ h => G .nrm (σ 2) h) = g3_0 k G (σ 1) h := (kgroups_cons (fun σ h => g3_1_eq k G σ h)).trans (by kernel_rfl)
@[simp] def n3 (G : KT1 R) (v1 : GV) (h : Heap) : Option R := g3_0 k G v1 h
theorem n3_eq (G : KT1 R) (σ : GS) (h : Heap) : KC k 11 c3 σ h (fun x σ h => G x (σ 2) h) = n3 k G (σ 1) h := (kregion_eq (id := 1) (draw := false) (ops := o3) (gs := [(none, [0, 1, 2, 3]), (some (3, true), [4, 5, 6]), (none, [7, 8])]) (by kernel_rfl) (by kernel_rfl) (by kernel_rfl)).trans (g3_0_eq k G σ h)
@[simp] def n1 (G : KT1 R) (v1 : GV) (h : Heap) : Option R := n3 k (fun x v2 h => kx x (n2 k G v2 h) (G x v2 h)) v1 h
theorem n1_eq (G : KT1 R) (σ : GS) (h : Heap) : KC k 11 c1 σ h (fun x σ h => G x (σ 2) h) = n1 k G (σ 1) h := (kseq (b := c2) rfl (fun σ h => n2_eq k G σ h)).trans (n3_eq k (fun x v2 h => kx x (n2 k G v2 h) (G x v2 h)) σ h)
noncomputable def c4 : Code := cL c0
@[simp] def n0 (G : KT1 R) (v0 : GV) (h : Heap) : Option R := kbox v0 h fun v1 h => n1 k G v1 h
theorem n0_eq (G : KT1 R) (σ : GS) (h : Heap) : KC k 11 c0 σ h (fun x σ h => G x (σ 2) h) = n0 k G (σ 0) h := (kseq (a := c4) (b := c1) rfl (fun σ h => n1_eq k G σ h)).trans (by kernel_rfl)
def run {R : Type} (k : Nat) (a0 : GV) (h : Heap) (fin : GV → Heap → Option R) : Option R := n0 k (fun x v2 h => kend x (fin v2 h)) a0 h
theorem run_eq {R : Type} (k : Nat) (a0 : GV) (h : Heap) (fin : GV → Heap → Option R) : kfun PP cfg NN HH k fn.spec_StyleOk [a0] h fin = run k a0 h fin := (kfun_eq (nt := 11) (c := c0) (show PP.funcs[fn.spec_StyleOk]? = some Try.f229 by kernel_rfl) (by kernel_rfl) (by kernel_rfl) (fun x σ h => by cases x <;> kernel_rfl)).trans (n0_eq k (fun x v2 h => kend x (fin v2 h)) _ h)
theorem gives {k : Nat} {a0 : GV} {v : GV} (e : run k a0 [] finN = some v) : NN fn.spec_StyleOk [a0] = some v := nω_of (by kernel_rfl) ((run_eq k a0 [] finN).trans e)
end S.spec_StyleOk
/-! spec_l1Min -/
namespace S.spec_l1Min
noncomputable def c0 : Code := bodyOf Try.f208
@[simp] def n0 {R : Type} (k : Nat) (G : KT1 R) (v0 v1 : GV) (h : Heap) : Option R := (kbin .lss v0 v1).bind fun v7 => kcond v7 (G .ret v0 h) (G .ret v1 h)
theorem n0_eq (G : KT1 R) (σ : GS) (h : Heap) : KC k 10 c0 σ h (fun x σ h => G x (σ 4) h) = n0 k G (σ 0) (σ 1) h := by kernel_rfl
def run {R : Type} (k : Nat) (a0 : GV) (a1 : GV) (h : Heap) (fin : GV → Heap → Option R) : Option R := n0 k (fun x v4 h => kend x (fin v4 h)) a0 a1 h
theorem run_eq {R : Type} (k : Nat) (a0 : GV) (a1 : GV) (h : Heap) (fin : GV → Heap → Option R) : kfun PP cfg NN HH k fn.spec_l1Min [a0, a1] h fin = run k a0 a1 h fin := (kfun_eq (nt := 10) (c := c0) (show PP.funcs[fn.spec_l1Min]? = some Try.f208 by kernel_rfl) (by kernel_rfl) (by kernel_rfl) (fun x σ h => by cases x <;> kernel_rfl)).trans (n0_eq k (fun x v4 h => kend x (fin v4 h)) _ h)
theorem gives {k : Nat} {a0 : GV} {a1 : GV} {v : GV} (e : run k a0 a1 [] finN = some v) : NN fn.spec_l1Min [a0, a1] = some v := nω_of (by kernel_rfl) ((run_eq k a0 a1 [] finN).trans e)
end S.spec_l1Min
end
end Go.Proofs.Ytlbnioapepelnaa.G

namespace Go.Proofs.Ytlbnioapepelnaa.G
open Go.RowKit
set_option linter.unusedVariables false
set_option linter.unusedSimpArgs false
/-- a ≤ n ≤ b. -/
def inB (n a b : Int) : Bool := decide (a ≤ n) && decide (n ≤ b)
def runeB (r : Int) : Bool := inB r 0 1114111 && !inB r 55296 57343
def widthM (r : Int) : Int := if (!runeB r || decide (r < 32) || inB r 127 159 || inB r 768 879) = true then 0 else if (inB r 4352 4447 || inB r 12288 55295 || inB r 127744 131071) = true then 2 else 1
theorem inB_iff {n a b : Int} : inB n a b = true ↔ a ≤ n ∧ n ≤ b := by simp [inB]
theorem kN_pl {f : FuncId} {args : List GV} {H : Heap} {v : GV} (hb : bors H args = some args) (h : NN f args = some v) : kN NN f args H = some v := kN_at hb h
theorem impl_in_spec (a b c : Int) : NN fn.impl_in [.int .i64 a, .int .i64 b, .int .i64 c] = some (.bool (inB a b c)) := by
  apply S.impl_in.gives (k := 0)
  unfold inB
  simp [S.impl_in.run]
  cases decide (b ≤ a) <;> cases decide (a ≤ c) <;> simp
theorem spec_l1In_spec (a b c : Int) : NN fn.spec_l1In [.int .i64 a, .int .i64 b, .int .i64 c] = some (.bool (inB a b c)) := by
  apply S.spec_l1In.gives (k := 0)
  unfold inB
  simp [S.spec_l1In.run]
  cases decide (b ≤ a) <;> cases decide (a ≤ c) <;> simp
theorem k_in (a b c : Int) (H : Heap) : kN NN fn.impl_in [.int .i64 a, .int .i64 b, .int .i64 c] H = some (.bool (inB a b c)) := kN_at (by simp) (impl_in_spec a b c)
theorem k_l1In (a b c : Int) (H : Heap) : kN NN fn.spec_l1In [.int .i64 a, .int .i64 b, .int .i64 c] H = some (.bool (inB a b c)) := kN_at (by simp) (spec_l1In_spec a b c)
theorem impl_RuneOk_spec (r : Int) : NN fn.impl_RuneOk [.int .i64 r] = some (.bool (runeB r)) := by
  apply S.impl_RuneOk.gives (k := 0)
  have q1 := k_in r 0 1114111
  have q2 := k_in r 55296 57343
  unfold runeB
  generalize inB r 0 1114111 = a at *
  generalize inB r 55296 57343 = b at *
  cases a <;> simp [S.impl_RuneOk.run, q1, q2, -kN_eq]
theorem spec_RuneOk_spec (r : Int) : NN fn.spec_RuneOk [.int .i64 r] = some (.bool (runeB r)) := by
  apply S.spec_RuneOk.gives (k := 0)
  have q1 := k_l1In r 0 1114111
  have q2 := k_l1In r 55296 57343
  unfold runeB
  generalize inB r 0 1114111 = a at *
  generalize inB r 55296 57343 = b at *
  cases a <;> simp [S.spec_RuneOk.run, q1, q2, -kN_eq]
theorem k_rune (r : Int) (H : Heap) : kN NN fn.impl_RuneOk [.int .i64 r] H = some (.bool (runeB r)) := kN_at (by simp) (impl_RuneOk_spec r)
theorem k_srune (r : Int) (H : Heap) : kN NN fn.spec_RuneOk [.int .i64 r] H = some (.bool (runeB r)) := kN_at (by simp) (spec_RuneOk_spec r)
theorem impl_Width_spec (r : Int) : NN fn.impl_Width [.int .i64 r] = some (.int .i64 (widthM r)) := by
  apply S.impl_Width.gives (k := 0)
  have q0 := k_rune r
  have q1 := k_in r 127 159
  have q2 := k_in r 768 879
  have q3 := k_in r 4352 4447
  have q4 := k_in r 12288 55295
  have q5 := k_in r 127744 131071
  have q6 : kbin .lss (.int .i64 r) (.int .i64 32) = some (.bool (decide (r < 32))) := kbin_lss
  unfold widthM
  generalize decide (r < 32) = c at *
  generalize runeB r = a0 at *
  generalize inB r 127 159 = a1 at *
  generalize inB r 768 879 = a2 at *
  generalize inB r 4352 4447 = a3 at *
  generalize inB r 12288 55295 = a4 at *
  generalize inB r 127744 131071 = a5 at *
  cases a0 <;> cases c <;> cases a1 <;> cases a2 <;> cases a3 <;> cases a4 <;> simp [S.impl_Width.run, q0, q1, q2, q3, q4, q5, q6, -kN_eq, -kbin_lss] <;> cases a5 <;> simp
theorem spec_Width_spec (r : Int) : NN fn.spec_Width [.int .i64 r] = some (.int .i64 (widthM r)) := by
  apply S.spec_Width.gives (k := 0)
  have q0 := k_srune r
  have q1 := k_l1In r 127 159
  have q2 := k_l1In r 768 879
  have q3 := k_l1In r 4352 4447
  have q4 := k_l1In r 12288 55295
  have q5 := k_l1In r 127744 131071
  have q6 : kbin .lss (.int .i64 r) (.int .i64 32) = some (.bool (decide (r < 32))) := kbin_lss
  unfold widthM
  generalize decide (r < 32) = c at *
  generalize runeB r = a0 at *
  generalize inB r 127 159 = a1 at *
  generalize inB r 768 879 = a2 at *
  generalize inB r 4352 4447 = a3 at *
  generalize inB r 12288 55295 = a4 at *
  generalize inB r 127744 131071 = a5 at *
  cases a0 <;> cases c <;> cases a1 <;> cases a2 <;> cases a3 <;> cases a4 <;> simp [S.spec_Width.run, q0, q1, q2, q3, q4, q5, q6, -kN_eq, -kbin_lss] <;> cases a5 <;> simp
theorem k_width (r : Int) (H : Heap) : kN NN fn.impl_Width [.int .i64 r] H = some (.int .i64 (widthM r)) := kN_at (by simp) (impl_Width_spec r)
theorem k_swidth (r : Int) (H : Heap) : kN NN fn.spec_Width [.int .i64 r] H = some (.int .i64 (widthM r)) := kN_at (by simp) (spec_Width_spec r)

/-! Lists. -/
/-- A loop that leaves at the first place that is right. -/
theorem loop_find {α R : Type} {xs : List α} {p : α → Bool} {f : Nat → Nat → R} {A : Nat → R} {B : R} (h1 : ∀ j r (hj : j < xs.length), f (r + 1) j = if p xs[j] = true then A j else f r (j + 1)) (h2 : ∀ r, f (r + 1) xs.length = B) :
    ∀ r j, xs.length - j < r → j ≤ xs.length → f r j = if (xs.drop j).any p = true then A (j + (xs.drop j).findIdx p) else B := by
  intro r
  induction r with
  | zero => intro j h; omega
  | succ r ih =>
    intro j hr hj
    rcases Nat.lt_or_ge j xs.length with h | h
    · rw [h1 j r h, List.drop_eq_getElem_cons h, List.any_cons, List.findIdx_cons]
      by_cases hp : p xs[j] = true
      · simp [hp]
      · rw [if_neg hp, ih (j + 1) (by omega) (by omega)]
        simp only [Bool.not_eq_true] at hp
        simp only [hp, Bool.false_or, cond_false]
        split
        · congr 1; omega
        · rfl
    · have : j = xs.length := by omega
      subst this
      rw [h2 r]
      simp
theorem any_not {α : Type} {p : α → Bool} {xs : List α} : (xs.any fun a => !p a) = !xs.all p := by
  induction xs with
  | nil => rfl
  | cons x xs ih => rw [List.any_cons, List.all_cons, ih, Bool.not_and]
theorem klen0 {n : Nat} : kbin .eql (.int .i64 (n : Int)) (.int .i64 0) = some (.bool (decide (n = 0))) := by
  rw [kbin_eql]; congr 2; rw [Bool.eq_iff_iff]; simp
/-- A loop over places that leaves by B at the first element that is not right, else by A. -/
theorem loop_allB {α R : Type} {xs : List α} {p : α → Bool} {f : Nat → Nat → R} {A B : R} (h1 : ∀ j r (hj : j < xs.length), f (r + 1) j = bif p xs[j] then f r (j + 1) else B) (h2 : ∀ r, f (r + 1) xs.length = A) :
    ∀ r j, xs.length - j < r → j ≤ xs.length → f r j = bif (xs.drop j).all p then A else B := by
  intro r
  induction r with
  | zero => intro j h; omega
  | succ r ih =>
    intro j hr hj
    rcases Nat.lt_or_ge j xs.length with h | h
    · rw [h1 j r h, List.drop_eq_getElem_cons h, List.all_cons]
      cases hp : p xs[j]
      · simp
      · rw [cond_true, ih (j + 1) (by omega) (by omega), Bool.true_and]
    · have : j = xs.length := by omega
      subst this
      rw [h2 r]
      simp
def styB (s : Int × Int × Bool × Bool × Bool) : Bool := inB s.1 0 8 && inB s.2.1 0 8
abbrev styG (s : Int × Int × Bool × Bool × Bool) : GV := .agg [.int .i64 s.1, .int .i64 s.2.1, .bool s.2.2.1, .bool s.2.2.2.1, .bool s.2.2.2.2]
theorem impl_StyleOk_spec (s : Int × Int × Bool × Bool × Bool) : NN fn.impl_StyleOk [styG s] = some (.bool (styB s)) := by
  obtain ⟨f, b, x, y, z⟩ := s
  apply S.impl_StyleOk.gives (k := 0)
  have q1 := k_in f 0 8
  have q2 := k_in b 0 8
  unfold styB
  simp only
  generalize inB f 0 8 = c1 at *
  generalize inB b 0 8 = c2 at *
  cases c1 <;> simp [S.impl_StyleOk.run, q1, q2, -kN_eq]
theorem spec_StyleOk_spec (s : Int × Int × Bool × Bool × Bool) : NN fn.spec_StyleOk [styG s] = some (.bool (styB s)) := by
  obtain ⟨f, b, x, y, z⟩ := s
  apply S.spec_StyleOk.gives (k := 0)
  have q1 := k_l1In f 0 8
  have q2 := k_l1In b 0 8
  unfold styB
  simp only
  generalize inB f 0 8 = c1 at *
  generalize inB b 0 8 = c2 at *
  cases c1 <;> simp [S.spec_StyleOk.run, q1, q2, -kN_eq]
theorem k_sty (s : Int × Int × Bool × Bool × Bool) (H : Heap) : kN NN fn.impl_StyleOk [styG s] H = some (.bool (styB s)) := kN_at (by simp) (impl_StyleOk_spec s)
theorem k_ssty (s : Int × Int × Bool × Bool × Bool) (H : Heap) : kN NN fn.spec_StyleOk [styG s] H = some (.bool (styB s)) := kN_at (by simp) (spec_StyleOk_spec s)
theorem keqS_sty (s t : Int × Int × Bool × Bool × Bool) : keqS PP .neq ty.impl_Style (styG s) (styG t) = some (.bool (!decide (s = t))) := by
  obtain ⟨f, b, x, y, z⟩ := s
  obtain ⟨f', b', x', y', z'⟩ := t
  have h : keqS PP .neq ty.impl_Style (styG (f, b, x, y, z)) (styG (f', b', x', y', z')) =
      (((if (f == f') = true then (if (b == b') = true then (if (x == x') = true then (if (y == y') = true then (if (z == z') = true then some true else some false) else some false) else some false) else some false) else some false) : Option Bool).map fun b => GV.bool !b) := by kernel_rfl
  rw [h]
  by_cases h1 : f = f' <;> by_cases h2 : b = b' <;> by_cases h3 : x = x' <;> by_cases h4 : y = y' <;> by_cases h5 : z = z' <;> simp [h1, h2, h3, h4, h5]
/-- A loop that leaves by B at the first place that is not right, else by A; its state goes on somehow. -/
theorem loop_allS {Q T : Type} {p : Nat → Bool} {n : Nat} {f : Nat → Nat → T → Q} {A B : Q} (h1 : ∀ j r s, j < n → ∃ s', f (r + 1) j s = bif p j then f r (j + 1) s' else B) (h2 : ∀ r s, f (r + 1) n s = A) :
    ∀ r j s, n - j < r → j ≤ n → f r j s = bif (List.range' j (n - j)).all p then A else B := by
  intro r
  induction r with
  | zero => intro j s h; omega
  | succ r ih =>
    intro j s hr hj
    rcases Nat.lt_or_ge j n with h | h
    · obtain ⟨s', e⟩ := h1 j r s h
      rw [e, show n - j = (n - (j + 1)) + 1 by omega, List.range'_succ, List.all_cons]
      cases hp : p j
      · simp
      · rw [cond_true, ih (j + 1) s' (by omega) (by omega), Bool.true_and]
    · have : j = n := by omega
      subst this
      rw [h2 r s]
      simp
end Go.Proofs.Ytlbnioapepelnaa.G
