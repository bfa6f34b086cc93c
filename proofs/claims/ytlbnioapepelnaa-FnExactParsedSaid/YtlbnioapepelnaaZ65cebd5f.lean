/- Data laid into memory: which blocks they have, how they are lent and handed over, how one place of them is changed; what stays as it was in laws that mark. What these functions do, told for open values, out of the machine with continuations. Printed by a program of this session. -/
import Derived.Test.YtlbnioapepelnaaZ57425ec0
import Derived.KernelRfl
namespace Go.Proofs.Ytlbnioapepelnaa.G
open Go.RowKit
set_option linter.unusedVariables false
set_option linter.unusedSimpArgs false

/-- .. a struct. -/
theorem Good.finS {α : Type} {es d : Nat} {mk : α → List GV} {E : Rel α} (hE : Good es d mk E) (hd : d ≤ 8) {h : Heap} {c : List GV} {x : α} {R : List Nat} (he : E h c x R) (nd : R.Nodup) (b : Nat) : ∃ c' bl, finO b (.agg c) h = some (.agg c', bl) ∧ ∀ H T, H.length = b → E (H ++ bl ++ T) c' x (List.range' b bl.length) := by
  obtain ⟨c', vis, bl, a1, a2, a3⟩ := hE.own he (8 - d) b
  rw [show 8 - d + d = 8 by omega] at a1
  refine ⟨c', bl, ?_, a3⟩
  unfold finO ownOk
  have e : Go.Proofs.Ytlbnioapepelnaa.G.own 9 h b (.agg c) = some (.agg c', vis, bl) := by
    show (ownL (Go.Proofs.Ytlbnioapepelnaa.G.own 8 h) b c).bind _ = _
    rw [a1]; rfl
  simp only [e, Option.bind_some, a2, nodupB_of nd, cond_true]
/-- .. a struct and a truth. -/
theorem Good.finT {α : Type} {es d : Nat} {mk : α → List GV} {E : Rel α} (hE : Good es d mk E) (hd : d ≤ 7) {h : Heap} {c : List GV} {x : α} {R : List Nat} {t : Bool} (he : E h c x R) (nd : R.Nodup) (b : Nat) : ∃ c' bl, finO b (.tup [.agg c, .bool t]) h = some (.tup [.agg c', .bool t], bl) ∧ ∀ H T, H.length = b → E (H ++ bl ++ T) c' x (List.range' b bl.length) := by
  obtain ⟨c', vis, bl, a1, a2, a3⟩ := hE.own he (7 - d) b
  rw [show 7 - d + d = 7 by omega] at a1
  refine ⟨c', bl, ?_, a3⟩
  unfold finO ownOk
  have e : Go.Proofs.Ytlbnioapepelnaa.G.own 9 h b (.tup [.agg c, .bool t]) = some (.tup [.agg c', .bool t], vis, bl) := by
    show (ownL (Go.Proofs.Ytlbnioapepelnaa.G.own 8 h) b [.agg c, .bool t]).bind _ = _
    have e1 : Go.Proofs.Ytlbnioapepelnaa.G.own 8 h b (.agg c) = some (.agg c', vis, bl) := by
      show (ownL (Go.Proofs.Ytlbnioapepelnaa.G.own 7 h) b c).bind _ = _
      rw [a1]; rfl
    unfold ownL
    rw [e1]
    simp [ownL, Go.Proofs.Ytlbnioapepelnaa.G.own]
  simp only [e, Option.bind_some, a2, nodupB_of nd, cond_true]
theorem Good.lendS {α : Type} {es d : Nat} {mk : α → List GV} {E : Rel α} (hE : Good es d mk E) (hd : d ≤ 8) {h : Heap} {c : List GV} {x : α} {R : List Nat} (he : E h c x R) : bor 9 h (.agg c) = some (.agg (mk x), R) := by
  obtain ⟨ys, a1, a2, a3⟩ := hE.brw he (8 - d)
  rw [show 8 - d + d = 8 by omega] at a1
  show (c.mapM (bor 8 h)).bind _ = _
  rw [a1]
  simp [a2, a3]

/-- One element of a slice: what it is, and how the slice is when it is changed. -/
theorem RSl.focus {α : Type} {es d : Nat} {mk : α → List GV} {E : Rel α} (hE : Good es d mk E) {h : Heap} {v : GV} {xs : List α} {R : List Nat} (he : RSl es E h [v] xs R) (nd : R.Nodup) {j : Nat} (hj : j < xs.length) :
    ∃ (b : Nat) (css : List (List GV)) (c : List GV) (r : List Nat), v = .sl b 0 xs.length xs.length es ∧ h[b]? = some css.flatten ∧ css.flatten.length = xs.length * es ∧ css.length = xs.length ∧ css[j]? = some c ∧ (∀ c ∈ css, c.length = es) ∧ E h c xs[j] r ∧ b ∉ r ∧ b ∈ R ∧ (∀ i ∈ r, i ∈ R) ∧ r.Nodup ∧
      ∀ h' c' x', h'[b]? = some (css.set j c').flatten → E h' c' x' r → (∀ i ∈ R, i ≠ b → i ∉ r → h'[i]? = h[i]?) → RSl es E h' [v] (xs.set j x') R := by
  rcases he with ⟨rfl, _, _⟩ | ⟨b, css, Rs, hv, hb, ha, rfl⟩
  · cases hj
  · obtain ⟨fl, fe⟩ := All3.flen (fun h => hE.len h) ha
    have key : ∀ {css : List (List GV)} {xs : List α} {Rs : List (List Nat)} (ha : All3 (E h) css xs Rs) (nd : Rs.flatten.Nodup) {j : Nat} (hj : j < xs.length), ∃ (c : List GV) (r : List Nat), css[j]? = some c ∧ E h c xs[j] r ∧ (∀ i ∈ r, i ∈ Rs.flatten) ∧ r.Nodup ∧ ∀ h' c' x', E h' c' x' r → (∀ i ∈ Rs.flatten, i ∉ r → h'[i]? = h[i]?) → All3 (E h') (css.set j c') (xs.set j x') Rs := by
      intro css xs Rs ha
      induction ha with
      | nil => intro _ j hj; cases hj
      | @cons c x r css xs Rs a ha ih =>
        intro nd j hj
        rw [List.flatten_cons, List.nodup_append] at nd
        cases j with
        | zero =>
          refine ⟨c, r, rfl, a, fun i hi => ?_, nd.1, fun h' c' x' he hf => ?_⟩
          · rw [List.flatten_cons]; exact List.mem_append_left _ hi
          · refine .cons he (All3.frame (fun a b => hE.frame a b) ha fun i hi => hf i (by rw [List.flatten_cons]; exact List.mem_append_right _ hi) fun hi' => ?_)
            exact nd.2.2 i hi' i hi rfl
        | succ j =>
          obtain ⟨c0, r0, b1, b2, b3, b4, b5⟩ := ih nd.2.1 (Nat.lt_of_succ_lt_succ hj)
          refine ⟨c0, r0, b1, b2, fun i hi => ?_, b4, fun h' c' x' he hf => ?_⟩
          · rw [List.flatten_cons]; exact List.mem_append_right _ (b3 i hi)
          · refine .cons (hE.frame a fun i hi => hf i (by rw [List.flatten_cons]; exact List.mem_append_left _ hi) fun hi' => nd.2.2 i hi i (b3 i hi') rfl) (b5 h' c' x' he fun i hi hn => hf i (by rw [List.flatten_cons]; exact List.mem_append_right _ hi) hn)
    rw [List.nodup_cons] at nd
    obtain ⟨c, r, b1, b2, b3, b4, b5⟩ := key ha nd.2 hj
    refine ⟨b, css, c, r, by injection hv, hb, fl, ha.len.1, b1, fe, b2, fun h' => nd.1 (b3 b h'), List.mem_cons_self .., fun i hi => List.mem_cons_of_mem _ (b3 i hi), b4, fun h' c' x' hb' he hf => Or.inr ⟨b, css.set j c', Rs, by rw [List.length_set]; exact hv, hb', b5 h' c' x' he fun i hi hn => hf i (List.mem_cons_of_mem _ hi) (fun e => nd.1 (e ▸ hi)) hn, rfl⟩⟩
/-- Cells of one element within all. -/
theorem css_get {es : Nat} : ∀ {css : List (List GV)} {c : List GV} {j off : Nat}, (∀ c ∈ css, c.length = es) → css[j]? = some c → off < es → css.flatten[j * es + off]? = c[off]?
  | [], c, j, off, _, h, _ => by cases h
  | c0 :: css, c, 0, off, hl, h, ho => by
    simp only [List.getElem?_cons_zero, Option.some.injEq] at h
    subst h
    rw [List.flatten_cons, Nat.zero_mul, Nat.zero_add, List.getElem?_append_left (by rw [hl _ (List.mem_cons_self ..)]; exact ho)]
  | c0 :: css, c, j + 1, off, hl, h, ho => by
    rw [List.getElem?_cons_succ] at h
    rw [List.flatten_cons, List.getElem?_append_right (by rw [hl _ (List.mem_cons_self ..), Nat.add_mul]; omega), hl _ (List.mem_cons_self ..)]
    rw [show (j + 1) * es + off - es = j * es + off by rw [Nat.add_mul]; omega]
    exact css_get (fun c hc => hl c (List.mem_cons_of_mem _ hc)) h ho
theorem css_set {es : Nat} : ∀ {css : List (List GV)} {c : List GV} {j off : Nat} {v : GV}, (∀ c ∈ css, c.length = es) → css[j]? = some c → off < es → css.flatten.set (j * es + off) v = (css.set j (c.set off v)).flatten
  | [], c, j, off, v, _, h, _ => by cases h
  | c0 :: css, c, 0, off, v, hl, h, ho => by
    simp only [List.getElem?_cons_zero, Option.some.injEq] at h
    subst h
    rw [List.flatten_cons, Nat.zero_mul, Nat.zero_add, List.set_append_left _ _ (by rw [hl _ (List.mem_cons_self ..)]; exact ho)]
    rfl
  | c0 :: css, c, j + 1, off, v, hl, h, ho => by
    rw [List.getElem?_cons_succ] at h
    rw [List.flatten_cons, List.set_append_right _ _ (by rw [hl _ (List.mem_cons_self ..), Nat.add_mul]; omega), hl _ (List.mem_cons_self ..)]
    rw [show (j + 1) * es + off - es = j * es + off by rw [Nat.add_mul]; omega]
    rw [css_set (fun c hc => hl c (List.mem_cons_of_mem _ hc)) h ho]
    rfl
theorem kadd1 {n : Nat} (h : n ≤ 9223372036854775806) : kbin .add (.int .i64 (n : Int)) (.int .i64 1) = some (.int .i64 ((n + 1 : Nat) : Int)) := by
  rw [kbin_add, wrap_id (by omega) (by omega)]; simp
theorem klt {j n : Nat} : kbin .lss (.int .i64 (j : Int)) (.int .i64 (n : Int)) = some (.bool (decide (j < n))) := by
  rw [kbin_lss]; simp
@[simp] theorem kfa_elf {α : Type} {t : Bool} {mk : α → List GV} {xs : List α} {j o off : Nat} : kfa off (elf t mk xs j o) = some (elf t mk xs j (o + off)) := by
  show some (GV.fp t ((((xs.drop j).flatMap mk).drop o).drop off)) = _
  rw [List.drop_drop]
  rfl
theorem krem3 {n : Nat} : kbin .rem (.int .i64 (n : Int)) (.int .i64 3) = some (.int .i64 ((n % 3 : Nat) : Int)) := by
  rw [kbin_rem (by omega), Int.tmod_eq_emod_of_nonneg (by omega)]; rfl
theorem kdec3 {n : Nat} : decide ((n : Int) % 3 = 0) = decide (n % 3 = 0) := by
  rw [Bool.eq_iff_iff, decide_eq_true_eq, decide_eq_true_eq]
  omega
theorem keq0 {n : Nat} : kbin .eql (.int .i64 (n : Int)) (.int .i64 0) = some (.bool (decide (n = 0))) := by
  rw [kbin_eql]
  congr 2
  rw [Bool.eq_iff_iff, decide_eq_true_eq, decide_eq_true_eq]
  omega
/-- One leaf of an element is written. -/
theorem st_leaf {h : Heap} {b es off n o tot j : Nat} {css : List (List GV)} {c : List GV} {x : GV} (hb : h[b]? = some (css.set j c).flatten) (fe : ∀ c ∈ css, c.length = es) (hn : css.length = n) (hj : j < n) (hcl : c.length = es) (ho : off < es) (hx : x.cells = [x]) (hc : x.isCell = true) (ho' : j * es + off = o) (ht : n * es = tot) :
    ∃ h', kstore 1 h (.ptr b o tot) x = some h' ∧ h'[b]? = some (css.set j (c.set off x)).flatten ∧ Fr [b] h h' := by
  have fe' : ∀ c' ∈ css.set j c, c'.length = es := fun c' h' => by
    rcases List.mem_or_eq_of_mem_set h' with h' | rfl
    · exact fe _ h'
    · exact hcl
  have hg : (css.set j c)[j]? = some c := by rw [List.getElem?_set_self (by omega)]
  have fl : ∀ l : List (List GV), (∀ c ∈ l, c.length = es) → l.flatten.length = l.length * es := by
    intro l
    induction l with
    | nil => intro _; simp
    | cons a l ih => intro h; rw [List.flatten_cons, List.length_append, h a (by simp), ih fun c hc => h c (by simp [hc]), List.length_cons, Nat.add_mul]; omega
  have hl : (css.set j c).flatten.length = tot := by rw [fl _ fe', List.length_set, hn, ht]
  have hlt : o < tot := by
    have : (j + 1) * es ≤ n * es := Nat.mul_le_mul_right es hj
    rw [Nat.add_mul] at this; omega
  refine ⟨_, kstore_at hb hl hlt hx hc, ?_, .set (by simp)⟩
  have hlb : b < h.length := (List.getElem?_eq_some_iff.1 hb).1
  rw [List.getElem?_set_self hlb, ← ho', css_set fe' hg ho, List.set_set]
/-- One leaf of an element is read. -/
theorem ld_leaf {h : Heap} {b es off n o tot j : Nat} {css : List (List GV)} {c : List GV} (hb : h[b]? = some (css.set j c).flatten) (fe : ∀ c ∈ css, c.length = es) (hn : css.length = n) (hj : j < n) (hcl : c.length = es) (ho : off < es) (ho' : j * es + off = o) (ht : n * es = tot) : kload1 h (.ptr b o tot) = c[off]? := by
  have fe' : ∀ c' ∈ css.set j c, c'.length = es := fun c' h' => by
    rcases List.mem_or_eq_of_mem_set h' with h' | rfl
    · exact fe _ h'
    · exact hcl
  have hg : (css.set j c)[j]? = some c := by rw [List.getElem?_set_self (by omega)]
  have fl : ∀ l : List (List GV), (∀ c ∈ l, c.length = es) → l.flatten.length = l.length * es := by
    intro l
    induction l with
    | nil => intro _; simp
    | cons a l ih => intro h; rw [List.flatten_cons, List.length_append, h a (by simp), ih fun c hc => h c (by simp [hc]), List.length_cons, Nat.add_mul]; omega
  rw [kload1_at hb (by rw [fl _ fe', List.length_set, hn, ht]), ← ho', css_get fe' hg ho]
theorem set_get_self {css : List (List GV)} {c : List GV} {j : Nat} (h : css[j]? = some c) : css.set j c = css := by
  obtain ⟨hj, rfl⟩ := List.getElem?_eq_some_iff.1 h
  exact List.set_getElem_self hj

/-- Marks, element by element. -/
def markL {α : Type} (m : α → Nat → α) (c : α → Nat) : List α → Nat → List α
  | [], _ => []
  | x :: xs, k => m x k :: markL m c xs (k + c x)
def cntL {α : Type} (c : α → Nat) (xs : List α) : Nat := (xs.map c).sum
theorem markL_len {α : Type} {m : α → Nat → α} {c : α → Nat} : ∀ (xs : List α) (k : Nat), (markL m c xs k).length = xs.length
  | [], _ => rfl
  | x :: xs, k => by unfold markL; rw [List.length_cons, markL_len xs]; rfl
theorem cntL_take {α : Type} {c : α → Nat} {xs : List α} {j : Nat} (hj : j < xs.length) : cntL c (xs.take (j + 1)) = cntL c (xs.take j) + c xs[j] := by
  unfold cntL
  rw [List.take_add_one, List.getElem?_eq_getElem hj, List.map_append, List.sum_append]
  simp
theorem cntL_le {α : Type} {c : α → Nat} {xs : List α} (j : Nat) : cntL c (xs.take j) ≤ cntL c xs := by
  have : cntL c xs = cntL c (xs.take j) + cntL c (xs.drop j) := by
    unfold cntL
    rw [← List.sum_append, ← List.map_append, List.take_append_drop]
  omega
theorem cntL_bound {α : Type} {c : α → Nat} {xs : List α} {B M : Nat} (hl : xs.length ≤ M) (h : ∀ x ∈ xs, c x ≤ B) : cntL c xs ≤ M * B := by
  have : cntL c xs ≤ xs.length * B := by
    clear hl
    unfold cntL
    induction xs with
    | nil => simp
    | cons x xs ih =>
      rw [List.map_cons, List.sum_cons, List.length_cons, Nat.add_mul]
      have := h x (by simp)
      have := ih fun y hy => h y (by simp [hy])
      omega
  exact Nat.le_trans this (Nat.mul_le_mul_right B hl)
theorem cell_of {α : Type} {es : Nat} {E : Rel α} {h : Heap} {v : GV} {xs : List α} {R : List Nat} (he : RSl es E h [v] xs R) : v.cells = [v] ∧ v.isCell = true := by
  rcases he with ⟨_, _, hc⟩ | ⟨_, _, _, hc, _⟩
  · rcases hc with hc | hc <;> (injection hc with hc; subst hc; exact ⟨rfl, rfl⟩)
  · injection hc with hc; subst hc; exact ⟨rfl, rfl⟩
theorem lb_range {a b l : Nat} (h : a ≤ b) : ∀ x ∈ List.range' b l, a ≤ x := fun x hx => by rw [List.mem_range'_1] at hx; omega
theorem lb_nil {a : Nat} : ∀ x ∈ ([] : List Nat), a ≤ x := fun x hx => by cases hx
theorem lb_app {a b l : Nat} {X : List Nat} (h : a ≤ b) (hX : ∀ x ∈ X, a ≤ x) : ∀ x ∈ List.range' b l ++ X, a ≤ x := fun x hx => by
  rcases List.mem_append.1 hx with hx | hx
  · exact lb_range h x hx
  · exact hX x hx
theorem markL_take {α : Type} {m : α → Nat → α} {c : α → Nat} : ∀ (xs : List α) (k j : Nat) (hj : j < xs.length), (markL m c (xs.take j) k ++ xs.drop j).set j (m xs[j] (k + cntL c (xs.take j))) = markL m c (xs.take (j + 1)) k ++ xs.drop (j + 1)
  | x :: xs, k, 0, _ => by
    show m x (k + 0) :: xs = m x k :: xs
    rw [Nat.add_zero]
  | x :: xs, k, j + 1, hj => by
    have := markL_take (m := m) (c := c) xs (k + c x) j (Nat.lt_of_succ_lt_succ hj)
    have e : cntL c ((x :: xs).take (j + 1)) = c x + cntL c (xs.take j) := by unfold cntL; rw [List.take_succ_cons, List.map_cons, List.sum_cons]
    rw [e, ← Nat.add_assoc]
    show m x k :: (markL m c (xs.take j) (k + c x) ++ xs.drop j).set j _ = m x k :: (markL m c (xs.take (j + 1)) (k + c x) ++ xs.drop (j + 1))
    rw [← this]
    rfl
theorem markL_get {α : Type} {m : α → Nat → α} {c : α → Nat} : ∀ (xs : List α) (k j : Nat) (hj : j < xs.length), (markL m c xs k)[j]? = some (m xs[j] (k + cntL c (xs.take j)))
  | x :: xs, k, 0, _ => rfl
  | x :: xs, k, j + 1, hj => by
    have := markL_get (m := m) (c := c) xs (k + c x) j (Nat.lt_of_succ_lt_succ hj)
    have e : cntL c ((x :: xs).take (j + 1)) = c x + cntL c (xs.take j) := by unfold cntL; rw [List.take_succ_cons, List.map_cons, List.sum_cons]
    rw [e, ← Nat.add_assoc]
    exact this
/-- A loop that marks a slice. -/
theorem mark_loop {α Q : Type} {es d : Nat} {mk : α → List GV} {E : Rel α} (hE : Good es d mk E) {m : α → Nat → α} {c : α → Nat} {v : GV} {xs : List α} {R : List Nat} {k : Nat} (nd : R.Nodup) {f : Nat → Nat → Nat → Heap → Q} {A : Nat → Heap → Q}
    (h1 : ∀ j r h ys, RSl es E h [v] ys R → (hl : ys.length = xs.length) → (hj : j < xs.length) → ys[j]? = some xs[j] → ∃ h', f (r + 1) j (k + cntL c (xs.take j)) h = f r (j + 1) (k + cntL c (xs.take j) + c xs[j]) h' ∧ RSl es E h' [v] (ys.set j (m xs[j] (k + cntL c (xs.take j)))) R ∧ Fr R h h')
    (h2 : ∀ r h ys, RSl es E h [v] ys R → ys.length = xs.length → f (r + 1) xs.length (k + cntL c xs) h = A (k + cntL c xs) h) :
    ∀ {h : Heap}, RSl es E h [v] xs R → ∀ n, xs.length < n → ∃ h', f n 0 k h = A (k + cntL c xs) h' ∧ RSl es E h' [v] (markL m c xs k) R ∧ Fr R h h' := by
  intro h he n hn
  have key : ∀ n j h, xs.length - j < n → j ≤ xs.length → RSl es E h [v] (markL m c (xs.take j) k ++ xs.drop j) R → ∃ h', f n j (k + cntL c (xs.take j)) h = A (k + cntL c xs) h' ∧ RSl es E h' [v] (markL m c xs k) R ∧ Fr R h h' := by
    intro n
    induction n with
    | zero => intro j h h0; omega
    | succ n ih =>
      intro j h h0 hj he
      have hlen : (markL m c (xs.take j) k ++ xs.drop j).length = xs.length := by rw [List.length_append, markL_len, List.length_take, List.length_drop]; omega
      rcases Nat.lt_or_ge j xs.length with hlt | hge
      · have hget : (markL m c (xs.take j) k ++ xs.drop j)[j]? = some xs[j] := by
          rw [List.getElem?_append_right (by rw [markL_len, List.length_take]; omega), markL_len, List.length_take, List.getElem?_drop]
          rw [show j + (j - min j xs.length) = j by omega]
          exact List.getElem?_eq_getElem hlt
        obtain ⟨h', a1, a2, a3⟩ := h1 j n h _ he hlen hlt hget
        rw [markL_take xs k j hlt] at a2
        rw [Nat.add_assoc, ← cntL_take hlt] at a1
        obtain ⟨h'', b1, b2, b3⟩ := ih (j + 1) h' (by omega) (by omega) a2
        exact ⟨h'', a1.trans b1, b2, a3.trans b3⟩
      · have : j = xs.length := by omega
        subst this
        rw [List.take_length, List.drop_length, List.append_nil] at he
        rw [List.take_length]
        exact ⟨h, h2 n h _ he (markL_len _ _), he, .refl⟩
  have := key n 0 h (by omega) (by omega) (by simpa [markL] using he)
  simpa [cntL] using this
theorem All3.snoc {α : Type} {E : List GV → α → List Nat → Prop} {css : List (List GV)} {xs : List α} {Rs : List (List Nat)} (h : All3 E css xs Rs) {c : List GV} {x : α} {r : List Nat} (he : E c x r) : All3 E (css ++ [c]) (xs ++ [x]) (Rs ++ [r]) := by
  induction h with
  | nil => exact .cons he .nil
  | cons a _ ih => exact .cons a ih
theorem splice_zeros {es n j : Nat} {A c z : List GV} (hA : A.length = j * es) (hc : c.length = es) (hz : z.length = es) (hj : j < n) : splice (A ++ zeros z (n - j)) (j * es) c = A ++ c ++ zeros z (n - (j + 1)) := by
  unfold splice
  rw [List.take_append_of_le_length (by omega), List.take_of_length_le (by omega), hc, ← hA, ← List.drop_drop, List.drop_left]
  rw [show n - j = (n - (j + 1)) + 1 by omega]
  simp only [zeros]
  rw [← hz, List.drop_left]
  
/-- A loop that fills a slice that was made. -/
theorem fill_loop {α Q : Type} {es d : Nat} {mk : α → List GV} {E : Rel α} (hE : Good es d mk E) {z : List GV} (hz : z.length = es) {xs : List α} {f : Nat → Nat → Heap → Q} {A : Heap → Q}
    (h1 : ∀ j r cells B, (hj : j < xs.length) → cells.length = xs.length * es → ∃ c bl, c.length = es ∧ (∀ H T, H.length = 1 + B.length → E (H ++ bl ++ T) c xs[j] (List.range' (1 + B.length) bl.length)) ∧ f (r + 1) j (cells :: B) = f r (j + 1) (splice cells (j * es) c :: (B ++ bl)))
    (h2 : ∀ r h, f (r + 1) xs.length h = A h) : ∀ n, xs.length < n → ∃ css B Rs, f n 0 [zeros z xs.length] = A (css.flatten :: B) ∧ All3 (E (css.flatten :: B)) css xs Rs ∧ Rs.flatten = List.range' 1 B.length := by
  intro n hn
  have key : ∀ n j css B Rs, xs.length - j < n → j ≤ xs.length → All3 (E ((css.flatten ++ zeros z (xs.length - j)) :: B)) css (xs.take j) Rs → Rs.flatten = List.range' 1 B.length →
      ∃ css2 B' Rs, f n j ((css.flatten ++ zeros z (xs.length - j)) :: B) = A (css2.flatten :: B') ∧ All3 (E (css2.flatten :: B')) css2 xs Rs ∧ Rs.flatten = List.range' 1 B'.length := by
    intro n
    induction n with
    | zero => intro j css B Rs h0; omega
    | succ n ih =>
      intro j css B Rs h0 hj ha hr
      have fl := (All3.flen (fun h => hE.len h) ha).1
      rw [List.length_take, Nat.min_eq_left hj] at fl
      rcases Nat.lt_or_ge j xs.length with hlt | hge
      · have hlen : (css.flatten ++ zeros z (xs.length - j)).length = xs.length * es := by rw [List.length_append, fl, zeros_len', hz, ← Nat.add_mul]; congr 1; omega
        obtain ⟨c, bl, hc, he, hf⟩ := h1 j n _ B hlt hlen
        rw [splice_zeros fl hc hz hlt] at hf
        have e2 : (css ++ [c]).flatten.length = (j + 1) * es := by simp [fl, hc, Nat.add_mul]
        have e1 : css.flatten ++ c = (css ++ [c]).flatten := by simp
        rw [e1] at hf
        have ha' : All3 (E (((css ++ [c]).flatten ++ zeros z (xs.length - (j + 1))) :: (B ++ bl))) (css ++ [c]) (xs.take (j + 1)) (Rs ++ [List.range' (1 + B.length) bl.length]) := by
          rw [List.take_add_one, List.getElem?_eq_getElem hlt]
          refine All3.snoc (All3.frame (fun a b => hE.frame a b) ha fun i hi => ?_) ?_
          · rw [hr, List.mem_range'] at hi
            obtain ⟨q, hq, rfl⟩ := hi
            rw [show 1 + 1 * q = q + 1 by omega, List.getElem?_cons_succ, List.getElem?_cons_succ, List.getElem?_append_left hq]
          · have := he (((css ++ [c]).flatten ++ zeros z (xs.length - (j + 1))) :: B) [] (by rw [List.length_cons]; omega)
            simpa using this
        have hr' : (Rs ++ [List.range' (1 + B.length) bl.length]).flatten = List.range' 1 (B ++ bl).length := by
          rw [List.flatten_append, hr, List.length_append, ← List.range'_append_1]
          simp
        obtain ⟨css', B', Rs', b1, b2, b3⟩ := ih (j + 1) _ _ _ (by omega) (by omega) ha' hr'
        exact ⟨css', B', Rs', hf.trans b1, b2, b3⟩
      · have : j = xs.length := by omega
        subst this
        rw [Nat.sub_self] at ha ⊢
        simp only [zeros, List.append_nil] at ha ⊢
        rw [List.take_length] at ha
        exact ⟨css, B, Rs, h2 n _, ha, hr⟩
  obtain ⟨css, B', Rs, a1, a2, a3⟩ := key n 0 [] [] [] (by omega) (by omega) .nil rfl
  exact ⟨css, B', Rs, by simpa using a1, a2, a3⟩

theorem Fr.blk {R : List Nat} {H H' : Heap} (f : Fr R H H') {p : Nat} {c : List GV} (h : H[p]? = some c) (hn : p ∉ R) : H'[p]? = some c := (f.2 p (List.getElem?_eq_some_iff.1 h).1 hn).trans h
theorem kalloc_at {Q : Type} {z : List GV} {H : Heap} {K : GV → Heap → Option Q} : kalloc z H K = K (.ptr H.length 0 z.length) (H ++ [z]) := rfl
theorem kloadA_at {H : Heap} {p n : Nat} {c : List GV} (h : H[p]? = some c) (hl : c.length = n) : kloadA n H (.ptr p 0 n) = some (.agg c) := by
  rw [kloadA_ptr, cellsAt_if, h]
  simp [hl]
  rw [List.take_of_length_le (by omega)]
theorem kstoreA_at {H : Heap} {p n : Nat} {c c' : List GV} (h : H[p]? = some c) (hl : c.length = n) (hl' : c'.length = n) (hc : c'.all GV.isCell = true) : kstore n H (.ptr p 0 n) (.agg c') = some (H.set p c') := by
  rw [kstore_ptr, cells_agg, if_pos ⟨hl', hc⟩, cellsAt_if, h]
  simp only [Option.bind_some, hl, if_true]
  rw [if_pos (by omega)]
  simp only [splice, List.take_zero, List.nil_append, Nat.zero_add, hl']
  rw [List.drop_of_length_le (by omega), List.append_nil]
/-- A local variable that is made and filled. -/
theorem var_at {H : Heap} {z c : List GV} {n : Nat} (hz : z.length = n) (hl : c.length = n) (hc : c.all GV.isCell = true) : kstore n (H ++ [z]) (.ptr H.length 0 n) (.agg c) = some (H ++ [c]) := by
  rw [kstoreA_at (c := z) (by simp) hz hl hc]
  simp
theorem fresh_agg {α : Type} {es d : Nat} {mk : α → List GV} {E : Rel α} (hE : Good es d mk E) {f : FuncId} {args xs : List GV} {H : Heap} {x : α} (hb : bors H args = some xs) (he : ∃ c bl, OO f xs H.length = some (.agg c, bl) ∧ ∀ H' T, H'.length = H.length → E (H' ++ bl ++ T) c x (List.range' H.length bl.length)) :
    ∃ c R H', kF false HH f args H = some (.agg c, H') ∧ E H' c x R ∧ R.Nodup ∧ Bd R H.length H'.length ∧ Fr [] H H' ∧ H.length ≤ H'.length := by
  obtain ⟨c, bl, h1, h2⟩ := he
  refine ⟨c, _, H ++ bl, by rw [kF_OO, hb]; simp [h1], by simpa using h2 H [] rfl, List.nodup_range', fun i hi => ?_, .app, by simp⟩
  rw [List.mem_range'_1] at hi
  simp; omega
theorem fresh_tup {α : Type} {es d : Nat} {mk : α → List GV} {E : Rel α} (hE : Good es d mk E) {f : FuncId} {args xs : List GV} {H : Heap} {x : α} {t : Bool} (hb : bors H args = some xs) (he : ∃ c bl, OO f xs H.length = some (.tup [.agg c, .bool t], bl) ∧ ∀ H' T, H'.length = H.length → E (H' ++ bl ++ T) c x (List.range' H.length bl.length)) :
    ∃ c R H', kF false HH f args H = some (.tup [.agg c, .bool t], H') ∧ E H' c x R ∧ R.Nodup ∧ Bd R H.length H'.length ∧ Fr [] H H' ∧ H.length ≤ H'.length := by
  obtain ⟨c, bl, h1, h2⟩ := he
  refine ⟨c, _, H ++ bl, by rw [kF_OO, hb]; simp [h1], by simpa using h2 H [] rfl, List.nodup_range', fun i hi => ?_, .app, by simp⟩
  rw [List.mem_range'_1] at hi
  simp; omega
/-- A call with data out of memory. -/
theorem bors_agg {α : Type} {es d : Nat} {mk : α → List GV} {E : Rel α} (hE : Good es d mk E) (hd : d ≤ 8) {H : Heap} {c : List GV} {x : α} {R : List Nat} (he : E H c x R) {gs xs : List GV} (h : bors H gs = some xs) : bors H (.agg c :: gs) = some (.agg (mk x) :: xs) := by
  rw [bors_cons, hE.lendS hd he, h]; rfl
theorem kN_at {f : FuncId} {args xs : List GV} {H : Heap} {v : GV} (hb : bors H args = some xs) (h : NN f xs = some v) : kN NN f args H = some v := by rw [kN_eq, hb]; exact h
/-- A slice of a slice that is told. -/
theorem ksl_fzl {α : Type} {es : Nat} {t : Bool} {mk : α → List GV} (hm : ∀ a, (mk a).length = es) {xs : List α} {n : Int} (h0 : 0 ≤ n) (h1 : n ≤ xs.length) : ksl es (fzl t es mk xs) none (some (.int .i64 n)) none = some (fzl t es mk (xs.take n.toNat)) := by
  cases xs with
  | nil =>
    have : n = 0 := by simp at h1; omega
    subst this
    simp [fzl, mt, ksl, kslice, gslice, gopt, gint]
  | cons x xs =>
    have hl := len_flat hm (x :: xs)
    by_cases hn : n = 0
    · subst hn
      have q : (0 : Int) ≤ (xs.length : Int) + 1 := by omega
      simp [fzl, mt, ksl, kslice, gslice, gopt, gint, q]
    · have e : ((x :: xs).take n.toNat).length = n.toNat := by rw [List.length_take]; omega
      have hne : 0 < ((x :: xs).take n.toNat).length := by omega
      rw [fzl_ne hne, e]
      have h2 : n ≤ (xs.length : Int) + 1 := by simpa using h1
      have h3 : ((x :: xs).flatMap mk).take (n.toNat * es) = ((x :: xs).take n.toNat).flatMap mk := by
        have := len_flat hm ((x :: xs).take n.toNat)
        rw [e] at this
        conv => lhs; rw [← List.take_append_drop n.toNat (x :: xs), List.flatMap_append]
        rw [← this, List.take_left]
      have h3' : (mk x ++ xs.flatMap mk).take (n.toNat * es) = ((x :: xs).take n.toNat).flatMap mk := h3
      simp [fzl, ksl, kslice, gslice, gopt, gint, h0, h2, hn, h3']

theorem All3.nodup_set {α : Type} {E : List GV → α → List Nat → Prop} {css : List (List GV)} {xs : List α} {Rs : List (List Nat)} (h : All3 E css xs Rs) : True := trivial
/-- One element of a slice, also with other memory behind it. -/
theorem RSl.focus2 {α : Type} {es d : Nat} {mk : α → List GV} {E : Rel α} (hE : Good es d mk E) {h : Heap} {v : GV} {xs : List α} {R : List Nat} (he : RSl es E h [v] xs R) (nd : R.Nodup) {j : Nat} (hj : j < xs.length) :
    ∃ (b : Nat) (css : List (List GV)) (c : List GV) (r : List Nat), v = .sl b 0 xs.length xs.length es ∧ h[b]? = some css.flatten ∧ css.length = xs.length ∧ css[j]? = some c ∧ (∀ c ∈ css, c.length = es) ∧ E h c xs[j] r ∧ b ∉ r ∧ b ∈ R ∧ (∀ i ∈ r, i ∈ R) ∧ r.Nodup ∧
      ∀ h' c' x' r', h'[b]? = some (css.set j c').flatten → E h' c' x' r' → r'.Nodup → (∀ i ∈ r', i ∈ r ∨ i ∉ R) → (∀ i ∈ R, i ≠ b → i ∉ r → h'[i]? = h[i]?) → ∃ R', RSl es E h' [v] (xs.set j x') R' ∧ R'.Nodup ∧ ∀ i ∈ R', i ∈ R ∨ i ∈ r' := by
  rcases he with ⟨rfl, _, _⟩ | ⟨b, css, Rs, hv, hb, ha, rfl⟩
  · cases hj
  · obtain ⟨fl, fe⟩ := All3.flen (fun h => hE.len h) ha
    have key : ∀ {css : List (List GV)} {xs : List α} {Rs : List (List Nat)} (ha : All3 (E h) css xs Rs) (nd : Rs.flatten.Nodup) {j : Nat} (hj : j < xs.length), ∃ (c : List GV) (r : List Nat), css[j]? = some c ∧ E h c xs[j] r ∧ (∀ i ∈ r, i ∈ Rs.flatten) ∧ r.Nodup ∧
        ∀ h' c' x' r', E h' c' x' r' → r'.Nodup → (∀ i ∈ r', i ∈ r ∨ i ∉ Rs.flatten) → (∀ i ∈ Rs.flatten, i ∉ r → h'[i]? = h[i]?) → ∃ Rs', All3 (E h') (css.set j c') (xs.set j x') Rs' ∧ Rs'.flatten.Nodup ∧ ∀ i ∈ Rs'.flatten, i ∈ Rs.flatten ∨ i ∈ r' := by
      intro css xs Rs ha
      induction ha with
      | nil => intro _ j hj; cases hj
      | @cons c x r css xs Rs a ha ih =>
        intro nd j hj
        rw [List.flatten_cons, List.nodup_append] at nd
        cases j with
        | zero =>
          refine ⟨c, r, rfl, a, fun i hi => ?_, nd.1, fun h' c' x' r' he hn hs hf => ⟨r' :: Rs, ?_, ?_, ?_⟩⟩
          · rw [List.flatten_cons]; exact List.mem_append_left _ hi
          · refine .cons he (All3.frame (fun a b => hE.frame a b) ha fun i hi => hf i (by rw [List.flatten_cons]; exact List.mem_append_right _ hi) fun hi' => ?_)
            exact nd.2.2 i hi' i hi rfl
          · rw [List.flatten_cons, List.nodup_append]
            refine ⟨hn, nd.2.1, fun i hi k hk e => ?_⟩
            subst e
            rcases hs i hi with h1 | h1
            · exact nd.2.2 i h1 i hk rfl
            · exact h1 (by rw [List.flatten_cons]; exact List.mem_append_right _ hk)
          · intro i hi
            rw [List.flatten_cons] at hi ⊢
            rcases List.mem_append.1 hi with hi | hi
            · exact Or.inr hi
            · exact Or.inl (List.mem_append_right _ hi)
        | succ j =>
          obtain ⟨c0, r0, b1, b2, b3, b4, b5⟩ := ih nd.2.1 (Nat.lt_of_succ_lt_succ hj)
          refine ⟨c0, r0, b1, b2, fun i hi => ?_, b4, fun h' c' x' r' he hn hs hf => ?_⟩
          · rw [List.flatten_cons]; exact List.mem_append_right _ (b3 i hi)
          · obtain ⟨Rs', q1, q2, q3⟩ := b5 h' c' x' r' he hn (fun i hi => (hs i hi).imp id fun h1 h2 => h1 (by rw [List.flatten_cons]; exact List.mem_append_right _ h2)) (fun i hi hn => hf i (by rw [List.flatten_cons]; exact List.mem_append_right _ hi) hn)
            refine ⟨r :: Rs', .cons (hE.frame a fun i hi => hf i (by rw [List.flatten_cons]; exact List.mem_append_left _ hi) fun hi' => nd.2.2 i hi i (b3 i hi') rfl) q1, ?_, ?_⟩
            · rw [List.flatten_cons, List.nodup_append]
              refine ⟨nd.1, q2, fun i hi k hk e => ?_⟩
              subst e
              rcases q3 i hk with h1 | h1
              · exact nd.2.2 i hi i h1 rfl
              · rcases hs i h1 with h2 | h2
                · exact nd.2.2 i hi i (b3 i h2) rfl
                · exact h2 (by rw [List.flatten_cons]; exact List.mem_append_left _ hi)
            · intro i hi
              rw [List.flatten_cons] at hi ⊢
              rcases List.mem_append.1 hi with hi | hi
              · exact Or.inl (List.mem_append_left _ hi)
              · exact (q3 i hi).imp (fun h => List.mem_append_right _ h) id
    rw [List.nodup_cons] at nd
    obtain ⟨c, r, b1, b2, b3, b4, b5⟩ := key ha nd.2 hj
    refine ⟨b, css, c, r, by injection hv, hb, ha.len.1, b1, fe, b2, fun h' => nd.1 (b3 b h'), List.mem_cons_self .., fun i hi => List.mem_cons_of_mem _ (b3 i hi), b4, fun h' c' x' r' hb' he hn hs hf => ?_⟩
    obtain ⟨Rs', q1, q2, q3⟩ := b5 h' c' x' r' he hn (fun i hi => (hs i hi).imp id fun h1 h2 => h1 (List.mem_cons_of_mem _ h2)) fun i hi hn => hf i (List.mem_cons_of_mem _ hi) (fun e => nd.1 (e ▸ hi)) hn
    refine ⟨b :: Rs'.flatten, Or.inr ⟨b, css.set j c', Rs', by rw [List.length_set]; exact hv, hb', q1, rfl⟩, ?_, fun i hi => ?_⟩
    · rw [List.nodup_cons]
      refine ⟨fun hi => ?_, q2⟩
      rcases q3 b hi with h1 | h1
      · exact nd.1 h1
      · rcases hs b h1 with h2 | h2
        · exact nd.1 (b3 b h2)
        · exact h2 (List.mem_cons_self ..)
    · rcases List.mem_cons.1 hi with rfl | hi
      · exact Or.inl (List.mem_cons_self ..)
      · exact (q3 i hi).imp (fun h => List.mem_cons_of_mem _ h) id

/-- append of one element that lies in block q. -/
theorem app_sl {α : Type} {es d b : Nat} {mk : α → List GV} {E : Rel α} (hE : Good es d mk E) (h0 : 0 < es) {z : List GV} (hz : z.length = es) (hb : b ≤ 1024) {H : Heap} {v : GV} {xs : List α} {R : List Nat} (he : RSl es E H [v] xs R) (nd : R.Nodup) (hn : xs.length ≤ 4194304)
    {cx : List GV} {x : α} {Rx : List Nat} (hx : E H cx x Rx) (nx : Rx.Nodup) (hd : ∀ i ∈ Rx, i ∉ R) {q : Nat} (hq : H[q]? = some cx) :
    ∃ v' H' R', kapp z es b v (.sl q 0 1 1 es) H = some (v', H') ∧ RSl es E H' [v'] (xs ++ [x]) R' ∧ R'.Nodup ∧ (∀ i ∈ R', i ∈ R ∨ i ∈ Rx ∨ i = H.length) ∧ Fr R H H' ∧ (v'.cells = [v'] ∧ v'.isCell = true) ∧ ((∃ i, v = .sl i 0 xs.length xs.length es ∧ i ∈ R ∧ H'.length = H.length ∧ kblk v = [i]) ∨ (kblk v = [] ∧ H' = H ++ [cx])) := by
  have hcl := hE.len hx
  have hcc := hE.cell hx
  have hg : gcells H es (.sl q 0 1 1 es) = some (1, cx, [q]) := by
    unfold gcells
    simp [hq, hcl]
    rw [List.take_of_length_le (by omega)]
  have h2 : 1 * b ≤ roomMax := by simp only [roomMax]; omega
  rcases he with ⟨rfl, rfl, hc⟩ | ⟨i, css, Rs, hv, hi, ha, rfl⟩
  · have hE' : E (H ++ [cx]) cx x Rx := hE.grow hx
    refine ⟨.sl H.length 0 1 1 es, H ++ [cx], H.length :: Rx, ?_, Or.inr ⟨H.length, [cx], [Rx], rfl, by simp, .cons hE' .nil, by simp⟩, ?_, ?_, .app, ⟨rfl, rfl⟩, Or.inr ⟨?_, rfl⟩⟩
    · unfold kapp
      rw [hg]
      simp only [Option.bind_some]
      rw [if_pos ⟨hcc, hz, by simp only [maxLen]; omega, h2⟩]
      rcases hc with hc | hc <;> (injection hc with hc; subst hc; rfl)
    · rw [List.nodup_cons]
      exact ⟨fun h => by have := hE.mem hx _ h; omega, nx⟩
    · intro k hk
      rcases List.mem_cons.1 hk with rfl | hk
      · exact Or.inr (Or.inr rfl)
      · exact Or.inr (Or.inl hk)
    · rcases hc with hc | hc <;> (injection hc with hc; subst hc; rfl)
  · injection hv with hv
    obtain ⟨fl, fe⟩ := All3.flen (fun h => hE.len h) ha
    rw [List.nodup_cons] at nd
    have hir : i ∉ Rx := fun h => hd i h (List.mem_cons_self ..)
    have hil := (List.getElem?_eq_some_iff.1 hi).1
    have e1 : (css ++ [cx]).flatten = css.flatten ++ cx := by simp
    refine ⟨.sl i 0 (xs.length + 1) (xs.length + 1) es, H.set i (css ++ [cx]).flatten, i :: (Rs.flatten ++ Rx), ?_, Or.inr ⟨i, css ++ [cx], Rs ++ [Rx], by rw [List.length_append]; rfl, ?_, ?_, by simp⟩, ?_, ?_, .set (List.mem_cons_self ..), ⟨rfl, rfl⟩, Or.inl ⟨i, hv, List.mem_cons_self .., by rw [List.length_set], by rw [hv]; rfl⟩⟩
    · rw [hv]
      have h1 : (xs.length + 1) * b ≤ 4194305 * 1024 := Nat.mul_le_mul (by omega) hb
      unfold kapp
      rw [hg]
      simp only [Option.bind_some]
      rw [if_pos ⟨hcc, hz, by simp only [maxLen]; omega, h2⟩]
      simp only [Nat.zero_add, cellsAt_if, hi, Option.bind_some, fl, if_true]
      rw [if_pos ⟨trivial, Nat.le_refl _, by simp only [roomMax]; omega, by simp only [maxLen]; omega⟩, if_neg (by omega), if_pos ⟨trivial, h0⟩, List.take_of_length_le (by omega), e1]
    · rw [List.getElem?_set_self hil]
    · refine All3.snoc (All3.frame (fun a b => hE.frame a b) ha fun k hk => List.getElem?_set_ne fun e => nd.1 (by rw [e]; exact hk)) (hE.frame hx fun k hk => List.getElem?_set_ne fun e => hir (by rw [e]; exact hk))
    · rw [List.nodup_cons, List.nodup_append, List.mem_append]
      exact ⟨fun h => h.elim nd.1 hir, nd.2, nx, fun a ha b hb e => hd b hb (List.mem_cons_of_mem _ (e ▸ ha))⟩
    · intro k hk
      rcases List.mem_cons.1 hk with rfl | hk
      · exact Or.inl (List.mem_cons_self ..)
      · rcases List.mem_append.1 hk with hk | hk
        · exact Or.inl (List.mem_cons_of_mem _ hk)
        · exact Or.inr (Or.inl hk)
theorem kbs_at {Q : Type} {len es : Nat} {c : List GV} {H : Heap} {K : GV → Heap → Option Q} : kbs len es c H K = K (.sl H.length 0 len len es) (H ++ [c]) := rfl
/-- An element is put behind the slice that lies at place o of block p. -/
theorem push {α : Type} {es d b : Nat} {mk : α → List GV} {E : Rel α} (hE : Good es d mk E) (h0 : 0 < es) {z : List GV} (hz : z.length = es) (hb : b ≤ 1024) {H : Heap} {v : GV} {xs : List α} {R : List Nat} (he : RSl es E H [v] xs R) (nd : R.Nodup) (hn : xs.length ≤ 4194304)
    {cx : List GV} {x : α} {Rx : List Nat} (hx : E H cx x Rx) (nx : Rx.Nodup) (hd : ∀ i ∈ Rx, i ∉ R) {p o n : Nat} {C : List GV} (hp : H[p]? = some C) (hC : C.length = n) (ho : o < n) (hpR : p ∉ R) (hpx : p ∉ Rx) :
    ∃ v' H4 H5 R', kapp z es b v (.sl H.length 0 1 1 es) (H ++ [cx]) = some (v', H4) ∧ kstore 1 H4 (.ptr p o n) v' = some H5 ∧ RSl es E H5 [v'] (xs ++ [x]) R' ∧ R'.Nodup ∧ (∀ i ∈ R', i ∈ R ∨ i ∈ Rx ∨ H.length ≤ i) ∧ H5[p]? = some (C.set o v') ∧ Fr (p :: R) H H5 := by
  have hpl := (List.getElem?_eq_some_iff.1 hp).1
  have hm := (RSl.good hE).mem he
  obtain ⟨v', H4, R', a1, a2, a3, a4, a5, a6, _⟩ := app_sl hE h0 hz hb (H := H ++ [cx]) ((RSl.good hE).grow he) nd hn (hE.grow hx) nx hd (q := H.length) (by simp)
  have hp4 : H4[p]? = some C := a5.blk (by rw [List.getElem?_append_left hpl]; exact hp) hpR
  have hpl4 := (List.getElem?_eq_some_iff.1 hp4).1
  have hpR' : p ∉ R' := fun h => by
    rcases a4 p h with h | h | h
    · exact hpR h
    · exact hpx h
    · rw [List.length_append] at h; simp at h; omega
  refine ⟨v', H4, H4.set p (C.set o v'), R', a1, kstore_at hp4 hC ho a6.1 a6.2, (RSl.good hE).keep a2 (.set (R := [p]) (by simp)) (fun i hi h => hpR' (by rw [List.mem_singleton] at h; rw [← h]; exact hi)), a3, fun i hi => ?_, List.getElem?_set_self hpl4, ?_⟩
  · rcases a4 i hi with h | h | h
    · exact Or.inl h
    · exact Or.inr (Or.inl h)
    · rw [List.length_append] at h; simp at h; exact Or.inr (Or.inr (by omega))
  · exact (Fr.app (t := [cx])).trans ((a5.sub (fun i hi => List.mem_cons_of_mem _ hi)).trans (.set (List.mem_cons_self ..)))
end Go.Proofs.Ytlbnioapepelnaa.G

namespace Go.Proofs.Ytlbnioapepelnaa.G
open Go.RowKit
set_option linter.unusedVariables false
set_option maxRecDepth 100000
abbrev KT0 (R : Type) : Type := GX → Heap → Option R
abbrev KT1 (R : Type) : Type := GX → GV → Heap → Option R
abbrev KT2 (R : Type) : Type := GX → GV → GV → Heap → Option R
abbrev KT3 (R : Type) : Type := GX → GV → GV → GV → Heap → Option R
abbrev KT4 (R : Type) : Type := GX → GV → GV → GV → GV → Heap → Option R
abbrev KT5 (R : Type) : Type := GX → GV → GV → GV → GV → GV → Heap → Option R
abbrev KT6 (R : Type) : Type := GX → GV → GV → GV → GV → GV → GV → Heap → Option R
abbrev KT7 (R : Type) : Type := GX → GV → GV → GV → GV → GV → GV → GV → Heap → Option R
abbrev KT8 (R : Type) : Type := GX → GV → GV → GV → GV → GV → GV → GV → GV → Heap → Option R
abbrev KT9 (R : Type) : Type := GX → GV → GV → GV → GV → GV → GV → GV → GV → GV → Heap → Option R
abbrev KT10 (R : Type) : Type := GX → GV → GV → GV → GV → GV → GV → GV → GV → GV → GV → Heap → Option R
abbrev KT11 (R : Type) : Type := GX → GV → GV → GV → GV → GV → GV → GV → GV → GV → GV → GV → Heap → Option R
abbrev KT12 (R : Type) : Type := GX → GV → GV → GV → GV → GV → GV → GV → GV → GV → GV → GV → GV → Heap → Option R
abbrev KT13 (R : Type) : Type := GX → GV → GV → GV → GV → GV → GV → GV → GV → GV → GV → GV → GV → GV → Heap → Option R
abbrev KT14 (R : Type) : Type := GX → GV → GV → GV → GV → GV → GV → GV → GV → GV → GV → GV → GV → GV → GV → Heap → Option R
abbrev KT15 (R : Type) : Type := GX → GV → GV → GV → GV → GV → GV → GV → GV → GV → GV → GV → GV → GV → GV → GV → Heap → Option R
abbrev KT16 (R : Type) : Type := GX → GV → GV → GV → GV → GV → GV → GV → GV → GV → GV → GV → GV → GV → GV → GV → GV → Heap → Option R
abbrev KT17 (R : Type) : Type := GX → GV → GV → GV → GV → GV → GV → GV → GV → GV → GV → GV → GV → GV → GV → GV → GV → GV → Heap → Option R
abbrev KT18 (R : Type) : Type := GX → GV → GV → GV → GV → GV → GV → GV → GV → GV → GV → GV → GV → GV → GV → GV → GV → GV → GV → Heap → Option R
abbrev KT19 (R : Type) : Type := GX → GV → GV → GV → GV → GV → GV → GV → GV → GV → GV → GV → GV → GV → GV → GV → GV → GV → GV → GV → Heap → Option R
abbrev KT20 (R : Type) : Type := GX → GV → GV → GV → GV → GV → GV → GV → GV → GV → GV → GV → GV → GV → GV → GV → GV → GV → GV → GV → GV → Heap → Option R
abbrev KT21 (R : Type) : Type := GX → GV → GV → GV → GV → GV → GV → GV → GV → GV → GV → GV → GV → GV → GV → GV → GV → GV → GV → GV → GV → GV → Heap → Option R
abbrev KT22 (R : Type) : Type := GX → GV → GV → GV → GV → GV → GV → GV → GV → GV → GV → GV → GV → GV → GV → GV → GV → GV → GV → GV → GV → GV → GV → Heap → Option R
abbrev KT23 (R : Type) : Type := GX → GV → GV → GV → GV → GV → GV → GV → GV → GV → GV → GV → GV → GV → GV → GV → GV → GV → GV → GV → GV → GV → GV → GV → Heap → Option R
abbrev KT24 (R : Type) : Type := GX → GV → GV → GV → GV → GV → GV → GV → GV → GV → GV → GV → GV → GV → GV → GV → GV → GV → GV → GV → GV → GV → GV → GV → GV → Heap → Option R
abbrev KT25 (R : Type) : Type := GX → GV → GV → GV → GV → GV → GV → GV → GV → GV → GV → GV → GV → GV → GV → GV → GV → GV → GV → GV → GV → GV → GV → GV → GV → GV → Heap → Option R
abbrev KT26 (R : Type) : Type := GX → GV → GV → GV → GV → GV → GV → GV → GV → GV → GV → GV → GV → GV → GV → GV → GV → GV → GV → GV → GV → GV → GV → GV → GV → GV → GV → Heap → Option R
abbrev KT27 (R : Type) : Type := GX → GV → GV → GV → GV → GV → GV → GV → GV → GV → GV → GV → GV → GV → GV → GV → GV → GV → GV → GV → GV → GV → GV → GV → GV → GV → GV → GV → Heap → Option R
abbrev KT28 (R : Type) : Type := GX → GV → GV → GV → GV → GV → GV → GV → GV → GV → GV → GV → GV → GV → GV → GV → GV → GV → GV → GV → GV → GV → GV → GV → GV → GV → GV → GV → GV → Heap → Option R
abbrev KT29 (R : Type) : Type := GX → GV → GV → GV → GV → GV → GV → GV → GV → GV → GV → GV → GV → GV → GV → GV → GV → GV → GV → GV → GV → GV → GV → GV → GV → GV → GV → GV → GV → GV → Heap → Option R
abbrev KT30 (R : Type) : Type := GX → GV → GV → GV → GV → GV → GV → GV → GV → GV → GV → GV → GV → GV → GV → GV → GV → GV → GV → GV → GV → GV → GV → GV → GV → GV → GV → GV → GV → GV → GV → Heap → Option R
noncomputable section
variable {R : Type} (k : Nat)
/-! laws_szParser -/
namespace S.laws_szParser
noncomputable def c0 : Code := bodyOf Try.f62
@[simp] def n0 {R : Type} (k : Nat) (G : KT1 R) (v0 v1 : GV) (h : Heap) : Option R := kbox v0 h fun v2 h => (kfa 1 v2).bind fun v5 => (kload1 h v5).bind fun v6 => (kN NN fn.laws_szInt64S [v6, v1] h).bind fun v8 => (kbin .lss v8 (.int .i64 0)).bind fun v10 => kcond v10 (G .ret (.int .i64 (-1)) h) ((kfa 3 v2).bind fun v11 => (kload1 h v11).bind fun v12 => (kN NN fn.laws_szInt64S [v12, v8] h).bind fun v14 => (kbin .lss v14 (.int .i64 0)).bind fun v16 => kcond v16 (G .ret (.int .i64 (-1)) h) (G .ret v14 h))
theorem n0_eq (G : KT1 R) (σ : GS) (h : Heap) : KC k 18 c0 σ h (fun x σ h => G x (σ 4) h) = n0 k G (σ 0) (σ 1) h := by kernel_rfl
def run {R : Type} (k : Nat) (a0 : GV) (a1 : GV) (h : Heap) (fin : GV → Heap → Option R) : Option R := n0 k (fun x v4 h => kend x (fin v4 h)) a0 a1 h
theorem run_eq {R : Type} (k : Nat) (a0 : GV) (a1 : GV) (h : Heap) (fin : GV → Heap → Option R) : kfun PP cfg NN HH k fn.laws_szParser [a0, a1] h fin = run k a0 a1 h fin := (kfun_eq (nt := 18) (c := c0) (show PP.funcs[fn.laws_szParser]? = some Try.f62 by kernel_rfl) (by kernel_rfl) (by kernel_rfl) (fun x σ h => by cases x <;> kernel_rfl)).trans (n0_eq k (fun x v4 h => kend x (fin v4 h)) _ h)
theorem gives {k : Nat} {a0 : GV} {a1 : GV} {v : GV} (e : run k a0 a1 [] finN = some v) : NN fn.laws_szParser [a0, a1] = some v := nω_of (by kernel_rfl) ((run_eq k a0 a1 [] finN).trans e)
end S.laws_szParser
/-! laws_toParser -/
namespace S.laws_toParser
noncomputable def c0 : Code := bodyOf Try.f64
@[simp] def n0 {R : Type} (k : Nat) (G : KT1 R) (v0 : GV) (h : Heap) : Option R := kbox v0 h fun v1 h => kalloc [(.int .i64 0), .nils, (.int .i64 0), .nils] h fun v2 h => kalloc [(.int .i64 0), .nils, (.int .i64 0), .nils] h fun v3 h => (kfa 0 v1).bind fun v4 => (kload1 h v4).bind fun v5 => (kfa 0 v3).bind fun v6 => (kstore 1 h v6 v5).bind fun h => (kfa 1 v1).bind fun v7 => (kload1 h v7).bind fun v8 => (kF false HH fn.laws_toInt64S [v8] h).bind fun r => kr r fun v9 h => (kfa 1 v3).bind fun v10 => (kstore 1 h v10 v9).bind fun h => (kfa 2 v1).bind fun v11 => (kload1 h v11).bind fun v12 => (kfa 2 v3).bind fun v13 => (kstore 1 h v13 v12).bind fun h => (kfa 3 v1).bind fun v14 => (kload1 h v14).bind fun v15 => (kF false HH fn.laws_toInt64S [v15] h).bind fun r => kr r fun v16 h => (kfa 3 v3).bind fun v17 => (kstore 1 h v17 v16).bind fun h => (kloadA 4 h v3).bind fun v18 => (kstore 4 h v2 v18).bind fun h => G .ret v2 h
theorem n0_eq (G : KT1 R) (σ : GS) (h : Heap) : KC k 19 c0 σ h (fun x σ h => G x (σ 2) h) = n0 k G (σ 0) h := by kernel_rfl
def run {R : Type} (k : Nat) (a0 : GV) (h : Heap) (fin : GV → Heap → Option R) : Option R := n0 k (fun x v2 h => kend x ((kloadA 4 h v2).bind fun w2 => fin w2 h)) a0 h
theorem run_eq {R : Type} (k : Nat) (a0 : GV) (h : Heap) (fin : GV → Heap → Option R) : kfun PP cfg NN HH k fn.laws_toParser [a0] h fin = run k a0 h fin := (kfun_eq (nt := 19) (c := c0) (show PP.funcs[fn.laws_toParser]? = some Try.f64 by kernel_rfl) (by kernel_rfl) (by kernel_rfl) (fun x σ h => by cases x <;> kernel_rfl)).trans (n0_eq k (fun x v2 h => kend x ((kloadA 4 h v2).bind fun w2 => fin w2 h)) _ h)
theorem gives {k : Nat} {a0 : GV} {b : Nat} {q : GV × List (List GV)} (e : run k a0 [] (finO b) = some q) : OO fn.laws_toParser [a0] b = some q := oω_of ((run_eq k a0 [] (finO b)).trans e)
end S.laws_toParser
/-! laws_eqParser -/
namespace S.laws_eqParser
noncomputable def c0 : Code := bodyOf Try.f66
@[simp] def n0 {R : Type} (k : Nat) (G : KT1 R) (v0 v1 : GV) (h : Heap) : Option R := kbox v0 h fun v2 h => kbox v1 h fun v3 h => (kfa 0 v2).bind fun v5 => (kload1 h v5).bind fun v6 => (kfa 0 v3).bind fun v7 => (kload1 h v7).bind fun v8 => (kbin .neq v6 v8).bind fun v9 => kcond v9 (G .ret (.bool false) h) ((kfa 1 v2).bind fun v10 => (kload1 h v10).bind fun v11 => (kfa 1 v3).bind fun v12 => (kload1 h v12).bind fun v13 => (kN NN fn.laws_eqInt64S [v11, v13] h).bind fun v14 => (kun .not v14).bind fun v15 => kcond v15 (G .ret (.bool false) h) ((kfa 2 v2).bind fun v16 => (kload1 h v16).bind fun v17 => (kfa 2 v3).bind fun v18 => (kload1 h v18).bind fun v19 => (kbin .neq v17 v19).bind fun v20 => kcond v20 (G .ret (.bool false) h) ((kfa 3 v2).bind fun v21 => (kload1 h v21).bind fun v22 => (kfa 3 v3).bind fun v23 => (kload1 h v23).bind fun v24 => (kN NN fn.laws_eqInt64S [v22, v24] h).bind fun v25 => (kun .not v25).bind fun v26 => kcond v26 (G .ret (.bool false) h) (G .ret (.bool true) h))))
theorem n0_eq (G : KT1 R) (σ : GS) (h : Heap) : KC k 27 c0 σ h (fun x σ h => G x (σ 4) h) = n0 k G (σ 0) (σ 1) h := by kernel_rfl
def run {R : Type} (k : Nat) (a0 : GV) (a1 : GV) (h : Heap) (fin : GV → Heap → Option R) : Option R := n0 k (fun x v4 h => kend x (fin v4 h)) a0 a1 h
theorem run_eq {R : Type} (k : Nat) (a0 : GV) (a1 : GV) (h : Heap) (fin : GV → Heap → Option R) : kfun PP cfg NN HH k fn.laws_eqParser [a0, a1] h fin = run k a0 a1 h fin := (kfun_eq (nt := 27) (c := c0) (show PP.funcs[fn.laws_eqParser]? = some Try.f66 by kernel_rfl) (by kernel_rfl) (by kernel_rfl) (fun x σ h => by cases x <;> kernel_rfl)).trans (n0_eq k (fun x v4 h => kend x (fin v4 h)) _ h)
theorem gives {k : Nat} {a0 : GV} {a1 : GV} {v : GV} (e : run k a0 a1 [] finN = some v) : NN fn.laws_eqParser [a0, a1] = some v := nω_of (by kernel_rfl) ((run_eq k a0 a1 [] finN).trans e)
end S.laws_eqParser
/-! laws_eqActionS -/
namespace S.laws_eqActionS
noncomputable def c0 : Code := bodyOf Try.f67
noncomputable def c1 : Code := cR c0
noncomputable def c2 : Code := cR c1
noncomputable def c3 : Code := cR c2
@[simp] def n3 {R : Type} (k : Nat) (G : KT1 R) (h : Heap) : Option R := G .ret (.bool true) h
theorem n3_eq (G : KT1 R) (σ : GS) (h : Heap) : KC k 27 c3 σ h (fun x σ h => G x (σ 4) h) = n3 k G h := by kernel_rfl
noncomputable def c4 : Code := cL c2
noncomputable def c5 : Code := cR c4
noncomputable def c6 : Code := cL c5
noncomputable def c7 : Code := cL c6
noncomputable def c8 : Code := cR c7
noncomputable def c9 : Code := cR c8
@[simp] def n9 {R : Type} (k : Nat) (G : KT4 R) (v0 v1 v4 v5 : GV) (h : Heap) : Option R := (kbin .add v5 (.int .i64 1)).bind fun v16 => G .nrm v0 v1 v4 v16 h
theorem n9_eq (G : KT4 R) (σ : GS) (h : Heap) : KC k 27 c9 σ h (fun x σ h => G x (σ 0) (σ 1) (σ 4) (σ 5) h) = n9 k G (σ 0) (σ 1) (σ 4) (σ 5) h := by kernel_rfl
noncomputable def c10 : Code := cL c8
noncomputable def c11 : Code := cL c10
@[simp] def n11 {R : Type} (k : Nat) (G : KT4 R) (v0 v1 v4 v5 : GV) (h : Heap) : Option R := (kia 5 v0 v5).bind fun v19 => (kloadA 5 h v19).bind fun v20 => (kia 5 v1 v5).bind fun v23 => (kloadA 5 h v23).bind fun v24 => (kN NN fn.laws_eqAction [v20, v24] h).bind fun v25 => (kun .not v25).bind fun v26 => kcond v26 (G .ret v0 v1 (.bool false) v5 h) (G .nrm v0 v1 v4 v5 h)
theorem n11_eq (G : KT4 R) (σ : GS) (h : Heap) : KC k 27 c11 σ h (fun x σ h => G x (σ 0) (σ 1) (σ 4) (σ 5) h) = n11 k G (σ 0) (σ 1) (σ 4) (σ 5) h := by kernel_rfl
@[simp] def n10 (G : KT4 R) (v0 v1 v4 v5 : GV) (h : Heap) : Option R := n11 k (fun x v0 v1 v4 v5 h => kb 1 x fun x => G x v0 v1 v4 v5 h) v0 v1 v4 v5 h
theorem n10_eq (G : KT4 R) (σ : GS) (h : Heap) : KC k 27 c10 σ h (fun x σ h => G x (σ 0) (σ 1) (σ 4) (σ 5) h) = n10 k G (σ 0) (σ 1) (σ 4) (σ 5) h := (kblock_eq (a := c11) rfl).trans (n11_eq k (fun x v0 v1 v4 v5 h => kb 1 x fun x => G x v0 v1 v4 v5 h) σ h)
@[simp] def n8 (G : KT4 R) (v0 v1 v4 v5 : GV) (h : Heap) : Option R := n10 k (fun x v0 v1 v4 v5 h => kx x (n9 k G v0 v1 v4 v5 h) (G x v0 v1 v4 v5 h)) v0 v1 v4 v5 h
theorem n8_eq (G : KT4 R) (σ : GS) (h : Heap) : KC k 27 c8 σ h (fun x σ h => G x (σ 0) (σ 1) (σ 4) (σ 5) h) = n8 k G (σ 0) (σ 1) (σ 4) (σ 5) h := (kseq (b := c9) rfl (fun σ h => n9_eq k G σ h)).trans (n10_eq k (fun x v0 v1 v4 v5 h => kx x (n9 k G v0 v1 v4 v5 h) (G x v0 v1 v4 v5 h)) σ h)
noncomputable def c12 : Code := cL c7
@[simp] def n7 (G : KT4 R) (v0 v1 v4 v5 : GV) (h : Heap) : Option R := (klen v0).bind fun v13 => (kbin .lss v5 v13).bind fun v14 => kcond v14 (n8 k G v0 v1 v4 v5 h) (G (.ext 0) v0 v1 v4 v5 h)
theorem n7_eq (G : KT4 R) (σ : GS) (h : Heap) : KC k 27 c7 σ h (fun x σ h => G x (σ 0) (σ 1) (σ 4) (σ 5) h) = n7 k G (σ 0) (σ 1) (σ 4) (σ 5) h := (kseq (a := c12) (b := c8) rfl (fun σ h => n8_eq k G σ h)).trans (by kernel_rfl)
def l6 {R : Type} (k : Nat) (G : KT1 R) : Nat → GV → GV → GV → GV → Heap → Option R
  | 0, _, _, _, _, _ => none
  | r + 1, v0, v1, v4, v5, h => n7 k (fun x v0 v1 v4 v5 h => kx x (l6 k G r v0 v1 v4 v5 h) (G x v4 h)) v0 v1 v4 v5 h
theorem l6_eq {R : Type} (k : Nat) (G : KT1 R) : ∀ (r : Nat) (σ : GS) (h : Heap), kloop (fun σ h K => KC k 27 c7 σ h K) r σ h (fun x σ h => G x (σ 4) h) = l6 k G r (σ 0) (σ 1) (σ 4) (σ 5) h
  | 0, _, _ => rfl
  | r + 1, σ, h => (kloop_eq (fun σ h => l6_eq k G r σ h)).trans (n7_eq k (fun x v0 v1 v4 v5 h => kx x (l6 k G r v0 v1 v4 v5 h) (G x v4 h)) σ h)
@[simp] def n6 (G : KT1 R) (v0 v1 v4 v5 : GV) (h : Heap) : Option R := l6 k G k v0 v1 v4 v5 h
theorem n6_eq (G : KT1 R) (σ : GS) (h : Heap) : KC k 27 c6 σ h (fun x σ h => G x (σ 4) h) = n6 k G (σ 0) (σ 1) (σ 4) (σ 5) h := (kloopc_eq (a := c7) rfl).trans (l6_eq k G k σ h)
@[simp] def n5 (G : KT1 R) (v0 v1 v4 v5 : GV) (h : Heap) : Option R := n6 k (fun x v4 h => kb 0 x fun x => G x v4 h) v0 v1 v4 v5 h
theorem n5_eq (G : KT1 R) (σ : GS) (h : Heap) : KC k 27 c5 σ h (fun x σ h => G x (σ 4) h) = n5 k G (σ 0) (σ 1) (σ 4) (σ 5) h := (kblock_eq (a := c6) rfl).trans (n6_eq k (fun x v4 h => kb 0 x fun x => G x v4 h) σ h)
noncomputable def c13 : Code := cL c4
@[simp] def n4 (G : KT1 R) (v0 v1 v4 : GV) (h : Heap) : Option R := n5 k G v0 v1 v4 (.int .i64 0) h
theorem n4_eq (G : KT1 R) (σ : GS) (h : Heap) : KC k 27 c4 σ h (fun x σ h => G x (σ 4) h) = n4 k G (σ 0) (σ 1) (σ 4) h := (kseq (a := c13) (b := c5) rfl (fun σ h => n5_eq k G σ h)).trans (by kernel_rfl)
@[simp] def n2 (G : KT1 R) (v0 v1 v4 : GV) (h : Heap) : Option R := n4 k (fun x v4 h => kx x (n3 k G h) (G x v4 h)) v0 v1 v4 h
theorem n2_eq (G : KT1 R) (σ : GS) (h : Heap) : KC k 27 c2 σ h (fun x σ h => G x (σ 4) h) = n2 k G (σ 0) (σ 1) (σ 4) h := (kseq (b := c3) rfl (fun σ h => n3_eq k G σ h)).trans (n4_eq k (fun x v4 h => kx x (n3 k G h) (G x v4 h)) σ h)
noncomputable def c14 : Code := cL c1
@[simp] def n1 (G : KT1 R) (v0 v1 v4 : GV) (h : Heap) : Option R := (klen v0).bind fun v7 => (klen v1).bind fun v9 => (kbin .neq v7 v9).bind fun v10 => kcond v10 (G .ret (.bool false) h) (n2 k G v0 v1 v4 h)
theorem n1_eq (G : KT1 R) (σ : GS) (h : Heap) : KC k 27 c1 σ h (fun x σ h => G x (σ 4) h) = n1 k G (σ 0) (σ 1) (σ 4) h := (kseq (a := c14) (b := c2) rfl (fun σ h => n2_eq k G σ h)).trans (by kernel_rfl)
noncomputable def c15 : Code := cL c0
@[simp] def n0 (G : KT1 R) (v0 v1 : GV) (h : Heap) : Option R := n1 k G v0 v1 (.bool false) h
theorem n0_eq (G : KT1 R) (σ : GS) (h : Heap) : KC k 27 c0 σ h (fun x σ h => G x (σ 4) h) = n0 k G (σ 0) (σ 1) h := (kseq (a := c15) (b := c1) rfl (fun σ h => n1_eq k G σ h)).trans (by kernel_rfl)
def run {R : Type} (k : Nat) (a0 : GV) (a1 : GV) (h : Heap) (fin : GV → Heap → Option R) : Option R := n0 k (fun x v4 h => kend x (fin v4 h)) a0 a1 h
theorem run_eq {R : Type} (k : Nat) (a0 : GV) (a1 : GV) (h : Heap) (fin : GV → Heap → Option R) : kfun PP cfg NN HH k fn.laws_eqActionS [a0, a1] h fin = run k a0 a1 h fin := (kfun_eq (nt := 27) (c := c0) (show PP.funcs[fn.laws_eqActionS]? = some Try.f67 by kernel_rfl) (by kernel_rfl) (by kernel_rfl) (fun x σ h => by cases x <;> kernel_rfl)).trans (n0_eq k (fun x v4 h => kend x (fin v4 h)) _ h)
theorem gives {k : Nat} {a0 : GV} {a1 : GV} {v : GV} (e : run k a0 a1 [] finN = some v) : NN fn.laws_eqActionS [a0, a1] = some v := nω_of (by kernel_rfl) ((run_eq k a0 a1 [] finN).trans e)
end S.laws_eqActionS
/-! laws_markParser -/
namespace S.laws_markParser
noncomputable def c0 : Code := bodyOf Try.f68
@[simp] def n0 {R : Type} (k : Nat) (G : KT1 R) (v0 v1 : GV) (h : Heap) : Option R := kbox v0 h fun v2 h => (kfa 1 v2).bind fun v5 => (kload1 h v5).bind fun v6 => (HH fn.laws_markInt64S [v6, v1] h).bind fun r => kr r fun v8 h => (kfa 3 v2).bind fun v9 => (kload1 h v9).bind fun v10 => (HH fn.laws_markInt64S [v10, v8] h).bind fun r => kr r fun v12 h => G .ret v12 h
theorem n0_eq (G : KT1 R) (σ : GS) (h : Heap) : KC k 14 c0 σ h (fun x σ h => G x (σ 4) h) = n0 k G (σ 0) (σ 1) h := by kernel_rfl
def run {R : Type} (k : Nat) (a0 : GV) (a1 : GV) (h : Heap) (fin : GV → Heap → Option R) : Option R := n0 k (fun x v4 h => kend x (fin v4 h)) a0 a1 h
theorem run_eq {R : Type} (k : Nat) (a0 : GV) (a1 : GV) (h : Heap) (fin : GV → Heap → Option R) : kfun PP cfg NN HH k fn.laws_markParser [a0, a1] h fin = run k a0 a1 h fin := (kfun_eq (nt := 14) (c := c0) (show PP.funcs[fn.laws_markParser]? = some Try.f68 by kernel_rfl) (by kernel_rfl) (by kernel_rfl) (fun x σ h => by cases x <;> kernel_rfl)).trans (n0_eq k (fun x v4 h => kend x (fin v4 h)) _ h)
theorem gives {k : Nat} {a0 : GV} {a1 : GV} {h : Heap} {r : GV × Heap} (e : run k a0 a1 h finH = some r) : HH fn.laws_markParser [a0, a1] h = some r := kω_of ((run_eq k a0 a1 h finH).trans e)
end S.laws_markParser
/-! laws_markActionS -/
namespace S.laws_markActionS
noncomputable def c0 : Code := bodyOf Try.f69
noncomputable def c1 : Code := cR c0
noncomputable def c2 : Code := cR c1
@[simp] def n2 {R : Type} (k : Nat) (G : KT1 R) (v1 : GV) (h : Heap) : Option R := G .ret v1 h
theorem n2_eq (G : KT1 R) (σ : GS) (h : Heap) : KC k 48 c2 σ h (fun x σ h => G x (σ 4) h) = n2 k G (σ 1) h := by kernel_rfl
noncomputable def c3 : Code := cL c1
noncomputable def c4 : Code := cR c3
noncomputable def c5 : Code := cL c4
noncomputable def c6 : Code := cL c5
noncomputable def c7 : Code := cR c6
noncomputable def c8 : Code := cR c7
@[simp] def n8 {R : Type} (k : Nat) (G : KT4 R) (v0 v1 v4 v5 : GV) (h : Heap) : Option R := (kbin .add v5 (.int .i64 1)).bind fun v11 => G .nrm v0 v1 v4 v11 h
theorem n8_eq (G : KT4 R) (σ : GS) (h : Heap) : KC k 48 c8 σ h (fun x σ h => G x (σ 0) (σ 1) (σ 4) (σ 5) h) = n8 k G (σ 0) (σ 1) (σ 4) (σ 5) h := by kernel_rfl
noncomputable def c9 : Code := cL c7
noncomputable def c10 : Code := cL c9
@[simp] def n10 {R : Type} (k : Nat) (G : KT4 R) (v0 v1 v4 v5 : GV) (h : Heap) : Option R := (kia 5 v0 v5).bind fun v15 => (kfa 0 v15).bind fun v16 => (kstore 1 h v16 v1).bind fun h => (kbin .add v1 (.int .i64 1)).bind fun v18 => (kia 5 v0 v5).bind fun v22 => (kfa 1 v22).bind fun v23 => (kstore 1 h v23 v18).bind fun h => (kbin .add v18 (.int .i64 1)).bind fun v25 => (kia 5 v0 v5).bind fun v28 => (kfa 2 v28).bind fun v29 => (kload1 h v29).bind fun v30 => (HH fn.laws_markInt64S [v30, v25] h).bind fun r => kr r fun v32 h => (kia 5 v0 v5).bind fun v36 => (kfa 3 v36).bind fun v37 => (kstore 1 h v37 v32).bind fun h => (kbin .add v32 (.int .i64 1)).bind fun v39 => (kia 5 v0 v5).bind fun v42 => (kfa 4 v42).bind fun v43 => (kload1 h v43).bind fun v44 => (HH fn.laws_markInt64S [v44, v39] h).bind fun r => kr r fun v46 h => G .nrm v0 v46 v4 v5 h
theorem n10_eq (G : KT4 R) (σ : GS) (h : Heap) : KC k 48 c10 σ h (fun x σ h => G x (σ 0) (σ 1) (σ 4) (σ 5) h) = n10 k G (σ 0) (σ 1) (σ 4) (σ 5) h := by kernel_rfl
@[simp] def n9 (G : KT4 R) (v0 v1 v4 v5 : GV) (h : Heap) : Option R := n10 k (fun x v0 v1 v4 v5 h => kb 1 x fun x => G x v0 v1 v4 v5 h) v0 v1 v4 v5 h
theorem n9_eq (G : KT4 R) (σ : GS) (h : Heap) : KC k 48 c9 σ h (fun x σ h => G x (σ 0) (σ 1) (σ 4) (σ 5) h) = n9 k G (σ 0) (σ 1) (σ 4) (σ 5) h := (kblock_eq (a := c10) rfl).trans (n10_eq k (fun x v0 v1 v4 v5 h => kb 1 x fun x => G x v0 v1 v4 v5 h) σ h)
@[simp] def n7 (G : KT4 R) (v0 v1 v4 v5 : GV) (h : Heap) : Option R := n9 k (fun x v0 v1 v4 v5 h => kx x (n8 k G v0 v1 v4 v5 h) (G x v0 v1 v4 v5 h)) v0 v1 v4 v5 h
theorem n7_eq (G : KT4 R) (σ : GS) (h : Heap) : KC k 48 c7 σ h (fun x σ h => G x (σ 0) (σ 1) (σ 4) (σ 5) h) = n7 k G (σ 0) (σ 1) (σ 4) (σ 5) h := (kseq (b := c8) rfl (fun σ h => n8_eq k G σ h)).trans (n9_eq k (fun x v0 v1 v4 v5 h => kx x (n8 k G v0 v1 v4 v5 h) (G x v0 v1 v4 v5 h)) σ h)
noncomputable def c11 : Code := cL c6
@[simp] def n6 (G : KT4 R) (v0 v1 v4 v5 : GV) (h : Heap) : Option R := (klen v0).bind fun v8 => (kbin .lss v5 v8).bind fun v9 => kcond v9 (n7 k G v0 v1 v4 v5 h) (G (.ext 0) v0 v1 v4 v5 h)
theorem n6_eq (G : KT4 R) (σ : GS) (h : Heap) : KC k 48 c6 σ h (fun x σ h => G x (σ 0) (σ 1) (σ 4) (σ 5) h) = n6 k G (σ 0) (σ 1) (σ 4) (σ 5) h := (kseq (a := c11) (b := c7) rfl (fun σ h => n7_eq k G σ h)).trans (by kernel_rfl)
def l5 {R : Type} (k : Nat) (G : KT2 R) : Nat → GV → GV → GV → GV → Heap → Option R
  | 0, _, _, _, _, _ => none
  | r + 1, v0, v1, v4, v5, h => n6 k (fun x v0 v1 v4 v5 h => kx x (l5 k G r v0 v1 v4 v5 h) (G x v1 v4 h)) v0 v1 v4 v5 h
theorem l5_eq {R : Type} (k : Nat) (G : KT2 R) : ∀ (r : Nat) (σ : GS) (h : Heap), kloop (fun σ h K => KC k 48 c6 σ h K) r σ h (fun x σ h => G x (σ 1) (σ 4) h) = l5 k G r (σ 0) (σ 1) (σ 4) (σ 5) h
  | 0, _, _ => rfl
  | r + 1, σ, h => (kloop_eq (fun σ h => l5_eq k G r σ h)).trans (n6_eq k (fun x v0 v1 v4 v5 h => kx x (l5 k G r v0 v1 v4 v5 h) (G x v1 v4 h)) σ h)
@[simp] def n5 (G : KT2 R) (v0 v1 v4 v5 : GV) (h : Heap) : Option R := l5 k G k v0 v1 v4 v5 h
theorem n5_eq (G : KT2 R) (σ : GS) (h : Heap) : KC k 48 c5 σ h (fun x σ h => G x (σ 1) (σ 4) h) = n5 k G (σ 0) (σ 1) (σ 4) (σ 5) h := (kloopc_eq (a := c6) rfl).trans (l5_eq k G k σ h)
@[simp] def n4 (G : KT2 R) (v0 v1 v4 v5 : GV) (h : Heap) : Option R := n5 k (fun x v1 v4 h => kb 0 x fun x => G x v1 v4 h) v0 v1 v4 v5 h
theorem n4_eq (G : KT2 R) (σ : GS) (h : Heap) : KC k 48 c4 σ h (fun x σ h => G x (σ 1) (σ 4) h) = n4 k G (σ 0) (σ 1) (σ 4) (σ 5) h := (kblock_eq (a := c5) rfl).trans (n5_eq k (fun x v1 v4 h => kb 0 x fun x => G x v1 v4 h) σ h)
noncomputable def c12 : Code := cL c3
@[simp] def n3 (G : KT2 R) (v0 v1 v4 : GV) (h : Heap) : Option R := n4 k G v0 v1 v4 (.int .i64 0) h
theorem n3_eq (G : KT2 R) (σ : GS) (h : Heap) : KC k 48 c3 σ h (fun x σ h => G x (σ 1) (σ 4) h) = n3 k G (σ 0) (σ 1) (σ 4) h := (kseq (a := c12) (b := c4) rfl (fun σ h => n4_eq k G σ h)).trans (by kernel_rfl)
@[simp] def n1 (G : KT1 R) (v0 v1 v4 : GV) (h : Heap) : Option R := n3 k (fun x v1 v4 h => kx x (n2 k G v1 h) (G x v4 h)) v0 v1 v4 h
theorem n1_eq (G : KT1 R) (σ : GS) (h : Heap) : KC k 48 c1 σ h (fun x σ h => G x (σ 4) h) = n1 k G (σ 0) (σ 1) (σ 4) h := (kseq (b := c2) rfl (fun σ h => n2_eq k G σ h)).trans (n3_eq k (fun x v1 v4 h => kx x (n2 k G v1 h) (G x v4 h)) σ h)
noncomputable def c13 : Code := cL c0
@[simp] def n0 (G : KT1 R) (v0 v1 : GV) (h : Heap) : Option R := n1 k G v0 v1 (.int .i64 0) h
theorem n0_eq (G : KT1 R) (σ : GS) (h : Heap) : KC k 48 c0 σ h (fun x σ h => G x (σ 4) h) = n0 k G (σ 0) (σ 1) h := (kseq (a := c13) (b := c1) rfl (fun σ h => n1_eq k G σ h)).trans (by kernel_rfl)
def run {R : Type} (k : Nat) (a0 : GV) (a1 : GV) (h : Heap) (fin : GV → Heap → Option R) : Option R := n0 k (fun x v4 h => kend x (fin v4 h)) a0 a1 h
theorem run_eq {R : Type} (k : Nat) (a0 : GV) (a1 : GV) (h : Heap) (fin : GV → Heap → Option R) : kfun PP cfg NN HH k fn.laws_markActionS [a0, a1] h fin = run k a0 a1 h fin := (kfun_eq (nt := 48) (c := c0) (show PP.funcs[fn.laws_markActionS]? = some Try.f69 by kernel_rfl) (by kernel_rfl) (by kernel_rfl) (fun x σ h => by cases x <;> kernel_rfl)).trans (n0_eq k (fun x v4 h => kend x (fin v4 h)) _ h)
theorem gives {k : Nat} {a0 : GV} {a1 : GV} {h : Heap} {r : GV × Heap} (e : run k a0 a1 h finH = some r) : HH fn.laws_markActionS [a0, a1] h = some r := kω_of ((run_eq k a0 a1 h finH).trans e)
end S.laws_markActionS
/-! laws_heldParser -/
namespace S.laws_heldParser
noncomputable def c0 : Code := bodyOf Try.f70
@[simp] def n0 {R : Type} (k : Nat) (G : KT1 R) (v0 v1 : GV) (h : Heap) : Option R := kbox v0 h fun v2 h => (kfa 1 v2).bind fun v5 => (kload1 h v5).bind fun v6 => (kN NN fn.laws_heldInt64S [v6, v1] h).bind fun v8 => (kbin .lss v8 (.int .i64 0)).bind fun v10 => kcond v10 (G .ret (.int .i64 (-1)) h) ((kfa 3 v2).bind fun v11 => (kload1 h v11).bind fun v12 => (kN NN fn.laws_heldInt64S [v12, v8] h).bind fun v14 => (kbin .lss v14 (.int .i64 0)).bind fun v16 => kcond v16 (G .ret (.int .i64 (-1)) h) (G .ret v14 h))
theorem n0_eq (G : KT1 R) (σ : GS) (h : Heap) : KC k 18 c0 σ h (fun x σ h => G x (σ 4) h) = n0 k G (σ 0) (σ 1) h := by kernel_rfl
def run {R : Type} (k : Nat) (a0 : GV) (a1 : GV) (h : Heap) (fin : GV → Heap → Option R) : Option R := n0 k (fun x v4 h => kend x (fin v4 h)) a0 a1 h
theorem run_eq {R : Type} (k : Nat) (a0 : GV) (a1 : GV) (h : Heap) (fin : GV → Heap → Option R) : kfun PP cfg NN HH k fn.laws_heldParser [a0, a1] h fin = run k a0 a1 h fin := (kfun_eq (nt := 18) (c := c0) (show PP.funcs[fn.laws_heldParser]? = some Try.f70 by kernel_rfl) (by kernel_rfl) (by kernel_rfl) (fun x σ h => by cases x <;> kernel_rfl)).trans (n0_eq k (fun x v4 h => kend x (fin v4 h)) _ h)
theorem gives {k : Nat} {a0 : GV} {a1 : GV} {v : GV} (e : run k a0 a1 [] finN = some v) : NN fn.laws_heldParser [a0, a1] = some v := nω_of (by kernel_rfl) ((run_eq k a0 a1 [] finN).trans e)
end S.laws_heldParser
/-! laws_heldActionS -/
namespace S.laws_heldActionS
noncomputable def c0 : Code := bodyOf Try.f71
noncomputable def c1 : Code := cR c0
noncomputable def c2 : Code := cR c1
@[simp] def n2 {R : Type} (k : Nat) (G : KT1 R) (v1 : GV) (h : Heap) : Option R := G .ret v1 h
theorem n2_eq (G : KT1 R) (σ : GS) (h : Heap) : KC k 58 c2 σ h (fun x σ h => G x (σ 4) h) = n2 k G (σ 1) h := by kernel_rfl
noncomputable def c3 : Code := cL c1
noncomputable def c4 : Code := cR c3
noncomputable def c5 : Code := cL c4
noncomputable def c6 : Code := cL c5
noncomputable def c7 : Code := cR c6
noncomputable def c8 : Code := cR c7
@[simp] def n8 {R : Type} (k : Nat) (G : KT4 R) (v0 v1 v4 v5 : GV) (h : Heap) : Option R := (kbin .add v5 (.int .i64 1)).bind fun v11 => G .nrm v0 v1 v4 v11 h
theorem n8_eq (G : KT4 R) (σ : GS) (h : Heap) : KC k 58 c8 σ h (fun x σ h => G x (σ 0) (σ 1) (σ 4) (σ 5) h) = n8 k G (σ 0) (σ 1) (σ 4) (σ 5) h := by kernel_rfl
noncomputable def c9 : Code := cL c7
noncomputable def c10 : Code := cL c9
noncomputable def c11 : Code := cR c10
@[simp] def n11 {R : Type} (k : Nat) (G : KT4 R) (v0 v1 v4 v5 : GV) (h : Heap) : Option R := (kbin .add v1 (.int .i64 1)).bind fun v20 => (kia 5 v0 v5).bind fun v23 => (kfa 1 v23).bind fun v24 => (kload1 h v24).bind fun v25 => (kbin .neq v25 v20).bind fun v27 => kcond v27 (G .ret v0 v20 (.int .i64 (-1)) v5 h) ((kbin .add v20 (.int .i64 1)).bind fun v29 => (kia 5 v0 v5).bind fun v32 => (kfa 2 v32).bind fun v33 => (kload1 h v33).bind fun v34 => (kN NN fn.laws_heldInt64S [v34, v29] h).bind fun v36 => (kbin .lss v36 (.int .i64 0)).bind fun v38 => kcond v38 (G .ret v0 v36 (.int .i64 (-1)) v5 h) ((kia 5 v0 v5).bind fun v41 => (kfa 3 v41).bind fun v42 => (kload1 h v42).bind fun v43 => (kbin .neq v43 v36).bind fun v45 => kcond v45 (G .ret v0 v36 (.int .i64 (-1)) v5 h) ((kbin .add v36 (.int .i64 1)).bind fun v47 => (kia 5 v0 v5).bind fun v50 => (kfa 4 v50).bind fun v51 => (kload1 h v51).bind fun v52 => (kN NN fn.laws_heldInt64S [v52, v47] h).bind fun v54 => (kbin .lss v54 (.int .i64 0)).bind fun v56 => kcond v56 (G .ret v0 v54 (.int .i64 (-1)) v5 h) (G .nrm v0 v54 v4 v5 h))))
theorem n11_eq (G : KT4 R) (σ : GS) (h : Heap) : KC k 58 c11 σ h (fun x σ h => G x (σ 0) (σ 1) (σ 4) (σ 5) h) = n11 k G (σ 0) (σ 1) (σ 4) (σ 5) h := by kernel_rfl
noncomputable def c12 : Code := cL c10
@[simp] def n10 (G : KT4 R) (v0 v1 v4 v5 : GV) (h : Heap) : Option R := (kia 5 v0 v5).bind fun v14 => (kfa 0 v14).bind fun v15 => (kload1 h v15).bind fun v16 => (kbin .neq v16 v1).bind fun v18 => kcond v18 (G .ret v0 v1 (.int .i64 (-1)) v5 h) (n11 k G v0 v1 v4 v5 h)
theorem n10_eq (G : KT4 R) (σ : GS) (h : Heap) : KC k 58 c10 σ h (fun x σ h => G x (σ 0) (σ 1) (σ 4) (σ 5) h) = n10 k G (σ 0) (σ 1) (σ 4) (σ 5) h := (kseq (a := c12) (b := c11) rfl (fun σ h => n11_eq k G σ h)).trans (by kernel_rfl)
@[simp] def n9 (G : KT4 R) (v0 v1 v4 v5 : GV) (h : Heap) : Option R := n10 k (fun x v0 v1 v4 v5 h => kb 1 x fun x => G x v0 v1 v4 v5 h) v0 v1 v4 v5 h
theorem n9_eq (G : KT4 R) (σ : GS) (h : Heap) : KC k 58 c9 σ h (fun x σ h => G x (σ 0) (σ 1) (σ 4) (σ 5) h) = n9 k G (σ 0) (σ 1) (σ 4) (σ 5) h := (kblock_eq (a := c10) rfl).trans (n10_eq k (fun x v0 v1 v4 v5 h => kb 1 x fun x => G x v0 v1 v4 v5 h) σ h)
@[simp] def n7 (G : KT4 R) (v0 v1 v4 v5 : GV) (h : Heap) : Option R := n9 k (fun x v0 v1 v4 v5 h => kx x (n8 k G v0 v1 v4 v5 h) (G x v0 v1 v4 v5 h)) v0 v1 v4 v5 h
theorem n7_eq (G : KT4 R) (σ : GS) (h : Heap) : KC k 58 c7 σ h (fun x σ h => G x (σ 0) (σ 1) (σ 4) (σ 5) h) = n7 k G (σ 0) (σ 1) (σ 4) (σ 5) h := (kseq (b := c8) rfl (fun σ h => n8_eq k G σ h)).trans (n9_eq k (fun x v0 v1 v4 v5 h => kx x (n8 k G v0 v1 v4 v5 h) (G x v0 v1 v4 v5 h)) σ h)
noncomputable def c13 : Code := cL c6
@[simp] def n6 (G : KT4 R) (v0 v1 v4 v5 : GV) (h : Heap) : Option R := (klen v0).bind fun v8 => (kbin .lss v5 v8).bind fun v9 => kcond v9 (n7 k G v0 v1 v4 v5 h) (G (.ext 0) v0 v1 v4 v5 h)
theorem n6_eq (G : KT4 R) (σ : GS) (h : Heap) : KC k 58 c6 σ h (fun x σ h => G x (σ 0) (σ 1) (σ 4) (σ 5) h) = n6 k G (σ 0) (σ 1) (σ 4) (σ 5) h := (kseq (a := c13) (b := c7) rfl (fun σ h => n7_eq k G σ h)).trans (by kernel_rfl)
def l5 {R : Type} (k : Nat) (G : KT2 R) : Nat → GV → GV → GV → GV → Heap → Option R
  | 0, _, _, _, _, _ => none
  | r + 1, v0, v1, v4, v5, h => n6 k (fun x v0 v1 v4 v5 h => kx x (l5 k G r v0 v1 v4 v5 h) (G x v1 v4 h)) v0 v1 v4 v5 h
theorem l5_eq {R : Type} (k : Nat) (G : KT2 R) : ∀ (r : Nat) (σ : GS) (h : Heap), kloop (fun σ h K => KC k 58 c6 σ h K) r σ h (fun x σ h => G x (σ 1) (σ 4) h) = l5 k G r (σ 0) (σ 1) (σ 4) (σ 5) h
  | 0, _, _ => rfl
  | r + 1, σ, h => (kloop_eq (fun σ h => l5_eq k G r σ h)).trans (n6_eq k (fun x v0 v1 v4 v5 h => kx x (l5 k G r v0 v1 v4 v5 h) (G x v1 v4 h)) σ h)
@[simp] def n5 (G : KT2 R) (v0 v1 v4 v5 : GV) (h : Heap) : Option R := l5 k G k v0 v1 v4 v5 h
theorem n5_eq (G : KT2 R) (σ : GS) (h : Heap) : KC k 58 c5 σ h (fun x σ h => G x (σ 1) (σ 4) h) = n5 k G (σ 0) (σ 1) (σ 4) (σ 5) h := (kloopc_eq (a := c6) rfl).trans (l5_eq k G k σ h)
@[simp] def n4 (G : KT2 R) (v0 v1 v4 v5 : GV) (h : Heap) : Option R := n5 k (fun x v1 v4 h => kb 0 x fun x => G x v1 v4 h) v0 v1 v4 v5 h
theorem n4_eq (G : KT2 R) (σ : GS) (h : Heap) : KC k 58 c4 σ h (fun x σ h => G x (σ 1) (σ 4) h) = n4 k G (σ 0) (σ 1) (σ 4) (σ 5) h := (kblock_eq (a := c5) rfl).trans (n5_eq k (fun x v1 v4 h => kb 0 x fun x => G x v1 v4 h) σ h)
noncomputable def c14 : Code := cL c3
@[simp] def n3 (G : KT2 R) (v0 v1 v4 : GV) (h : Heap) : Option R := n4 k G v0 v1 v4 (.int .i64 0) h
theorem n3_eq (G : KT2 R) (σ : GS) (h : Heap) : KC k 58 c3 σ h (fun x σ h => G x (σ 1) (σ 4) h) = n3 k G (σ 0) (σ 1) (σ 4) h := (kseq (a := c14) (b := c4) rfl (fun σ h => n4_eq k G σ h)).trans (by kernel_rfl)
@[simp] def n1 (G : KT1 R) (v0 v1 v4 : GV) (h : Heap) : Option R := n3 k (fun x v1 v4 h => kx x (n2 k G v1 h) (G x v4 h)) v0 v1 v4 h
theorem n1_eq (G : KT1 R) (σ : GS) (h : Heap) : KC k 58 c1 σ h (fun x σ h => G x (σ 4) h) = n1 k G (σ 0) (σ 1) (σ 4) h := (kseq (b := c2) rfl (fun σ h => n2_eq k G σ h)).trans (n3_eq k (fun x v1 v4 h => kx x (n2 k G v1 h) (G x v4 h)) σ h)
noncomputable def c15 : Code := cL c0
@[simp] def n0 (G : KT1 R) (v0 v1 : GV) (h : Heap) : Option R := n1 k G v0 v1 (.int .i64 0) h
theorem n0_eq (G : KT1 R) (σ : GS) (h : Heap) : KC k 58 c0 σ h (fun x σ h => G x (σ 4) h) = n0 k G (σ 0) (σ 1) h := (kseq (a := c15) (b := c1) rfl (fun σ h => n1_eq k G σ h)).trans (by kernel_rfl)
def run {R : Type} (k : Nat) (a0 : GV) (a1 : GV) (h : Heap) (fin : GV → Heap → Option R) : Option R := n0 k (fun x v4 h => kend x (fin v4 h)) a0 a1 h
theorem run_eq {R : Type} (k : Nat) (a0 : GV) (a1 : GV) (h : Heap) (fin : GV → Heap → Option R) : kfun PP cfg NN HH k fn.laws_heldActionS [a0, a1] h fin = run k a0 a1 h fin := (kfun_eq (nt := 58) (c := c0) (show PP.funcs[fn.laws_heldActionS]? = some Try.f71 by kernel_rfl) (by kernel_rfl) (by kernel_rfl) (fun x σ h => by cases x <;> kernel_rfl)).trans (n0_eq k (fun x v4 h => kend x (fin v4 h)) _ h)
theorem gives {k : Nat} {a0 : GV} {a1 : GV} {v : GV} (e : run k a0 a1 [] finN = some v) : NN fn.laws_heldActionS [a0, a1] = some v := nω_of (by kernel_rfl) ((run_eq k a0 a1 [] finN).trans e)
end S.laws_heldActionS
/-! laws_toInt64S -/
namespace S.laws_toInt64S
noncomputable def c0 : Code := bodyOf Try.f73
noncomputable def c1 : Code := cR c0
noncomputable def c2 : Code := cR c1
noncomputable def c3 : Code := cR c2
@[simp] def n3 {R : Type} (k : Nat) (G : KT1 R) (v3 : GV) (h : Heap) : Option R := G .ret v3 h
theorem n3_eq (G : KT1 R) (σ : GS) (h : Heap) : KC k 22 c3 σ h (fun x σ h => G x (σ 2) h) = n3 k G (σ 3) h := by kernel_rfl
noncomputable def c4 : Code := cL c2
noncomputable def c5 : Code := cR c4
noncomputable def c6 : Code := cL c5
noncomputable def c7 : Code := cL c6
noncomputable def c8 : Code := cR c7
noncomputable def c9 : Code := cR c8
@[simp] def n9 {R : Type} (k : Nat) (G : KT4 R) (v0 v2 v3 v4 : GV) (h : Heap) : Option R := (kbin .add v4 (.int .i64 1)).bind fun v13 => G .nrm v0 v2 v3 v13 h
theorem n9_eq (G : KT4 R) (σ : GS) (h : Heap) : KC k 22 c9 σ h (fun x σ h => G x (σ 0) (σ 2) (σ 3) (σ 4) h) = n9 k G (σ 0) (σ 2) (σ 3) (σ 4) h := by kernel_rfl
noncomputable def c10 : Code := cL c8
noncomputable def c11 : Code := cL c10
@[simp] def n11 {R : Type} (k : Nat) (G : KT4 R) (v0 v2 v3 v4 : GV) (h : Heap) : Option R := (kia 1 v0 v4).bind fun v18 => (kload1 h v18).bind fun v19 => (kia 1 v3 v4).bind fun v20 => (kstore 1 h v20 v19).bind fun h => G .nrm v0 v2 v3 v4 h
theorem n11_eq (G : KT4 R) (σ : GS) (h : Heap) : KC k 22 c11 σ h (fun x σ h => G x (σ 0) (σ 2) (σ 3) (σ 4) h) = n11 k G (σ 0) (σ 2) (σ 3) (σ 4) h := by kernel_rfl
@[simp] def n10 (G : KT4 R) (v0 v2 v3 v4 : GV) (h : Heap) : Option R := n11 k (fun x v0 v2 v3 v4 h => kb 1 x fun x => G x v0 v2 v3 v4 h) v0 v2 v3 v4 h
theorem n10_eq (G : KT4 R) (σ : GS) (h : Heap) : KC k 22 c10 σ h (fun x σ h => G x (σ 0) (σ 2) (σ 3) (σ 4) h) = n10 k G (σ 0) (σ 2) (σ 3) (σ 4) h := (kblock_eq (a := c11) rfl).trans (n11_eq k (fun x v0 v2 v3 v4 h => kb 1 x fun x => G x v0 v2 v3 v4 h) σ h)
@[simp] def n8 (G : KT4 R) (v0 v2 v3 v4 : GV) (h : Heap) : Option R := n10 k (fun x v0 v2 v3 v4 h => kx x (n9 k G v0 v2 v3 v4 h) (G x v0 v2 v3 v4 h)) v0 v2 v3 v4 h
theorem n8_eq (G : KT4 R) (σ : GS) (h : Heap) : KC k 22 c8 σ h (fun x σ h => G x (σ 0) (σ 2) (σ 3) (σ 4) h) = n8 k G (σ 0) (σ 2) (σ 3) (σ 4) h := (kseq (b := c9) rfl (fun σ h => n9_eq k G σ h)).trans (n10_eq k (fun x v0 v2 v3 v4 h => kx x (n9 k G v0 v2 v3 v4 h) (G x v0 v2 v3 v4 h)) σ h)
noncomputable def c12 : Code := cL c7
@[simp] def n7 (G : KT4 R) (v0 v2 v3 v4 : GV) (h : Heap) : Option R := (klen v0).bind fun v10 => (kbin .lss v4 v10).bind fun v11 => kcond v11 (n8 k G v0 v2 v3 v4 h) (G (.ext 0) v0 v2 v3 v4 h)
theorem n7_eq (G : KT4 R) (σ : GS) (h : Heap) : KC k 22 c7 σ h (fun x σ h => G x (σ 0) (σ 2) (σ 3) (σ 4) h) = n7 k G (σ 0) (σ 2) (σ 3) (σ 4) h := (kseq (a := c12) (b := c8) rfl (fun σ h => n8_eq k G σ h)).trans (by kernel_rfl)
def l6 {R : Type} (k : Nat) (G : KT2 R) : Nat → GV → GV → GV → GV → Heap → Option R
  | 0, _, _, _, _, _ => none
  | r + 1, v0, v2, v3, v4, h => n7 k (fun x v0 v2 v3 v4 h => kx x (l6 k G r v0 v2 v3 v4 h) (G x v2 v3 h)) v0 v2 v3 v4 h
theorem l6_eq {R : Type} (k : Nat) (G : KT2 R) : ∀ (r : Nat) (σ : GS) (h : Heap), kloop (fun σ h K => KC k 22 c7 σ h K) r σ h (fun x σ h => G x (σ 2) (σ 3) h) = l6 k G r (σ 0) (σ 2) (σ 3) (σ 4) h
  | 0, _, _ => rfl
  | r + 1, σ, h => (kloop_eq (fun σ h => l6_eq k G r σ h)).trans (n7_eq k (fun x v0 v2 v3 v4 h => kx x (l6 k G r v0 v2 v3 v4 h) (G x v2 v3 h)) σ h)
@[simp] def n6 (G : KT2 R) (v0 v2 v3 v4 : GV) (h : Heap) : Option R := l6 k G k v0 v2 v3 v4 h
theorem n6_eq (G : KT2 R) (σ : GS) (h : Heap) : KC k 22 c6 σ h (fun x σ h => G x (σ 2) (σ 3) h) = n6 k G (σ 0) (σ 2) (σ 3) (σ 4) h := (kloopc_eq (a := c7) rfl).trans (l6_eq k G k σ h)
@[simp] def n5 (G : KT2 R) (v0 v2 v3 v4 : GV) (h : Heap) : Option R := n6 k (fun x v2 v3 h => kb 0 x fun x => G x v2 v3 h) v0 v2 v3 v4 h
theorem n5_eq (G : KT2 R) (σ : GS) (h : Heap) : KC k 22 c5 σ h (fun x σ h => G x (σ 2) (σ 3) h) = n5 k G (σ 0) (σ 2) (σ 3) (σ 4) h := (kblock_eq (a := c6) rfl).trans (n6_eq k (fun x v2 v3 h => kb 0 x fun x => G x v2 v3 h) σ h)
noncomputable def c13 : Code := cL c4
@[simp] def n4 (G : KT2 R) (v0 v2 v3 : GV) (h : Heap) : Option R := n5 k G v0 v2 v3 (.int .i64 0) h
theorem n4_eq (G : KT2 R) (σ : GS) (h : Heap) : KC k 22 c4 σ h (fun x σ h => G x (σ 2) (σ 3) h) = n4 k G (σ 0) (σ 2) (σ 3) h := (kseq (a := c13) (b := c5) rfl (fun σ h => n5_eq k G σ h)).trans (by kernel_rfl)
@[simp] def n2 (G : KT1 R) (v0 v2 v3 : GV) (h : Heap) : Option R := n4 k (fun x v2 v3 h => kx x (n3 k G v3 h) (G x v2 h)) v0 v2 v3 h
theorem n2_eq (G : KT1 R) (σ : GS) (h : Heap) : KC k 22 c2 σ h (fun x σ h => G x (σ 2) h) = n2 k G (σ 0) (σ 2) (σ 3) h := (kseq (b := c3) rfl (fun σ h => n3_eq k G σ h)).trans (n4_eq k (fun x v2 v3 h => kx x (n3 k G v3 h) (G x v2 h)) σ h)
noncomputable def c14 : Code := cL c1
@[simp] def n1 (G : KT1 R) (v0 v2 : GV) (h : Heap) : Option R := (klen v0).bind fun v6 => (kmake [(.int .i64 0)] 1 8 v6 v6 h).bind fun r => kr r fun v7 h => n2 k G v0 v2 v7 h
theorem n1_eq (G : KT1 R) (σ : GS) (h : Heap) : KC k 22 c1 σ h (fun x σ h => G x (σ 2) h) = n1 k G (σ 0) (σ 2) h := (kseq (a := c14) (b := c2) rfl (fun σ h => n2_eq k G σ h)).trans (by kernel_rfl)
noncomputable def c15 : Code := cL c0
@[simp] def n0 (G : KT1 R) (v0 : GV) (h : Heap) : Option R := n1 k G v0 .nils h
theorem n0_eq (G : KT1 R) (σ : GS) (h : Heap) : KC k 22 c0 σ h (fun x σ h => G x (σ 2) h) = n0 k G (σ 0) h := (kseq (a := c15) (b := c1) rfl (fun σ h => n1_eq k G σ h)).trans (by kernel_rfl)
def run {R : Type} (k : Nat) (a0 : GV) (h : Heap) (fin : GV → Heap → Option R) : Option R := n0 k (fun x v2 h => kend x (fin v2 h)) a0 h
theorem run_eq {R : Type} (k : Nat) (a0 : GV) (h : Heap) (fin : GV → Heap → Option R) : kfun PP cfg NN HH k fn.laws_toInt64S [a0] h fin = run k a0 h fin := (kfun_eq (nt := 22) (c := c0) (show PP.funcs[fn.laws_toInt64S]? = some Try.f73 by kernel_rfl) (by kernel_rfl) (by kernel_rfl) (fun x σ h => by cases x <;> kernel_rfl)).trans (n0_eq k (fun x v2 h => kend x (fin v2 h)) _ h)
theorem gives {k : Nat} {a0 : GV} {b : Nat} {q : GV × List (List GV)} (e : run k a0 [] (finO b) = some q) : OO fn.laws_toInt64S [a0] b = some q := oω_of ((run_eq k a0 [] (finO b)).trans e)
end S.laws_toInt64S
/-! laws_eqInt64S -/
namespace S.laws_eqInt64S
noncomputable def c0 : Code := bodyOf Try.f75
noncomputable def c1 : Code := cR c0
noncomputable def c2 : Code := cR c1
noncomputable def c3 : Code := cR c2
@[simp] def n3 {R : Type} (k : Nat) (G : KT1 R) (h : Heap) : Option R := G .ret (.bool true) h
theorem n3_eq (G : KT1 R) (σ : GS) (h : Heap) : KC k 26 c3 σ h (fun x σ h => G x (σ 4) h) = n3 k G h := by kernel_rfl
noncomputable def c4 : Code := cL c2
noncomputable def c5 : Code := cR c4
noncomputable def c6 : Code := cL c5
noncomputable def c7 : Code := cL c6
noncomputable def c8 : Code := cR c7
noncomputable def c9 : Code := cR c8
@[simp] def n9 {R : Type} (k : Nat) (G : KT4 R) (v0 v1 v4 v5 : GV) (h : Heap) : Option R := (kbin .add v5 (.int .i64 1)).bind fun v16 => G .nrm v0 v1 v4 v16 h
theorem n9_eq (G : KT4 R) (σ : GS) (h : Heap) : KC k 26 c9 σ h (fun x σ h => G x (σ 0) (σ 1) (σ 4) (σ 5) h) = n9 k G (σ 0) (σ 1) (σ 4) (σ 5) h := by kernel_rfl
noncomputable def c10 : Code := cL c8
noncomputable def c11 : Code := cL c10
@[simp] def n11 {R : Type} (k : Nat) (G : KT4 R) (v0 v1 v4 v5 : GV) (h : Heap) : Option R := (kia 1 v0 v5).bind fun v19 => (kload1 h v19).bind fun v20 => (kia 1 v1 v5).bind fun v23 => (kload1 h v23).bind fun v24 => (kbin .neq v20 v24).bind fun v25 => kcond v25 (G .ret v0 v1 (.bool false) v5 h) (G .nrm v0 v1 v4 v5 h)
theorem n11_eq (G : KT4 R) (σ : GS) (h : Heap) : KC k 26 c11 σ h (fun x σ h => G x (σ 0) (σ 1) (σ 4) (σ 5) h) = n11 k G (σ 0) (σ 1) (σ 4) (σ 5) h := by kernel_rfl
@[simp] def n10 (G : KT4 R) (v0 v1 v4 v5 : GV) (h : Heap) : Option R := n11 k (fun x v0 v1 v4 v5 h => kb 1 x fun x => G x v0 v1 v4 v5 h) v0 v1 v4 v5 h
theorem n10_eq (G : KT4 R) (σ : GS) (h : Heap) : KC k 26 c10 σ h (fun x σ h => G x (σ 0) (σ 1) (σ 4) (σ 5) h) = n10 k G (σ 0) (σ 1) (σ 4) (σ 5) h := (kblock_eq (a := c11) rfl).trans (n11_eq k (fun x v0 v1 v4 v5 h => kb 1 x fun x => G x v0 v1 v4 v5 h) σ h)
@[simp] def n8 (G : KT4 R) (v0 v1 v4 v5 : GV) (h : Heap) : Option R := n10 k (fun x v0 v1 v4 v5 h => kx x (n9 k G v0 v1 v4 v5 h) (G x v0 v1 v4 v5 h)) v0 v1 v4 v5 h
theorem n8_eq (G : KT4 R) (σ : GS) (h : Heap) : KC k 26 c8 σ h (fun x σ h => G x (σ 0) (σ 1) (σ 4) (σ 5) h) = n8 k G (σ 0) (σ 1) (σ 4) (σ 5) h := (kseq (b := c9) rfl (fun σ h => n9_eq k G σ h)).trans (n10_eq k (fun x v0 v1 v4 v5 h => kx x (n9 k G v0 v1 v4 v5 h) (G x v0 v1 v4 v5 h)) σ h)
noncomputable def c12 : Code := cL c7
@[simp] def n7 (G : KT4 R) (v0 v1 v4 v5 : GV) (h : Heap) : Option R := (klen v0).bind fun v13 => (kbin .lss v5 v13).bind fun v14 => kcond v14 (n8 k G v0 v1 v4 v5 h) (G (.ext 0) v0 v1 v4 v5 h)
theorem n7_eq (G : KT4 R) (σ : GS) (h : Heap) : KC k 26 c7 σ h (fun x σ h => G x (σ 0) (σ 1) (σ 4) (σ 5) h) = n7 k G (σ 0) (σ 1) (σ 4) (σ 5) h := (kseq (a := c12) (b := c8) rfl (fun σ h => n8_eq k G σ h)).trans (by kernel_rfl)
def l6 {R : Type} (k : Nat) (G : KT1 R) : Nat → GV → GV → GV → GV → Heap → Option R
  | 0, _, _, _, _, _ => none
  | r + 1, v0, v1, v4, v5, h => n7 k (fun x v0 v1 v4 v5 h => kx x (l6 k G r v0 v1 v4 v5 h) (G x v4 h)) v0 v1 v4 v5 h
theorem l6_eq {R : Type} (k : Nat) (G : KT1 R) : ∀ (r : Nat) (σ : GS) (h : Heap), kloop (fun σ h K => KC k 26 c7 σ h K) r σ h (fun x σ h => G x (σ 4) h) = l6 k G r (σ 0) (σ 1) (σ 4) (σ 5) h
  | 0, _, _ => rfl
  | r + 1, σ, h => (kloop_eq (fun σ h => l6_eq k G r σ h)).trans (n7_eq k (fun x v0 v1 v4 v5 h => kx x (l6 k G r v0 v1 v4 v5 h) (G x v4 h)) σ h)
@[simp] def n6 (G : KT1 R) (v0 v1 v4 v5 : GV) (h : Heap) : Option R := l6 k G k v0 v1 v4 v5 h
theorem n6_eq (G : KT1 R) (σ : GS) (h : Heap) : KC k 26 c6 σ h (fun x σ h => G x (σ 4) h) = n6 k G (σ 0) (σ 1) (σ 4) (σ 5) h := (kloopc_eq (a := c7) rfl).trans (l6_eq k G k σ h)
@[simp] def n5 (G : KT1 R) (v0 v1 v4 v5 : GV) (h : Heap) : Option R := n6 k (fun x v4 h => kb 0 x fun x => G x v4 h) v0 v1 v4 v5 h
theorem n5_eq (G : KT1 R) (σ : GS) (h : Heap) : KC k 26 c5 σ h (fun x σ h => G x (σ 4) h) = n5 k G (σ 0) (σ 1) (σ 4) (σ 5) h := (kblock_eq (a := c6) rfl).trans (n6_eq k (fun x v4 h => kb 0 x fun x => G x v4 h) σ h)
noncomputable def c13 : Code := cL c4
@[simp] def n4 (G : KT1 R) (v0 v1 v4 : GV) (h : Heap) : Option R := n5 k G v0 v1 v4 (.int .i64 0) h
theorem n4_eq (G : KT1 R) (σ : GS) (h : Heap) : KC k 26 c4 σ h (fun x σ h => G x (σ 4) h) = n4 k G (σ 0) (σ 1) (σ 4) h := (kseq (a := c13) (b := c5) rfl (fun σ h => n5_eq k G σ h)).trans (by kernel_rfl)
@[simp] def n2 (G : KT1 R) (v0 v1 v4 : GV) (h : Heap) : Option R := n4 k (fun x v4 h => kx x (n3 k G h) (G x v4 h)) v0 v1 v4 h
theorem n2_eq (G : KT1 R) (σ : GS) (h : Heap) : KC k 26 c2 σ h (fun x σ h => G x (σ 4) h) = n2 k G (σ 0) (σ 1) (σ 4) h := (kseq (b := c3) rfl (fun σ h => n3_eq k G σ h)).trans (n4_eq k (fun x v4 h => kx x (n3 k G h) (G x v4 h)) σ h)
noncomputable def c14 : Code := cL c1
@[simp] def n1 (G : KT1 R) (v0 v1 v4 : GV) (h : Heap) : Option R := (klen v0).bind fun v7 => (klen v1).bind fun v9 => (kbin .neq v7 v9).bind fun v10 => kcond v10 (G .ret (.bool false) h) (n2 k G v0 v1 v4 h)
theorem n1_eq (G : KT1 R) (σ : GS) (h : Heap) : KC k 26 c1 σ h (fun x σ h => G x (σ 4) h) = n1 k G (σ 0) (σ 1) (σ 4) h := (kseq (a := c14) (b := c2) rfl (fun σ h => n2_eq k G σ h)).trans (by kernel_rfl)
noncomputable def c15 : Code := cL c0
@[simp] def n0 (G : KT1 R) (v0 v1 : GV) (h : Heap) : Option R := n1 k G v0 v1 (.bool false) h
theorem n0_eq (G : KT1 R) (σ : GS) (h : Heap) : KC k 26 c0 σ h (fun x σ h => G x (σ 4) h) = n0 k G (σ 0) (σ 1) h := (kseq (a := c15) (b := c1) rfl (fun σ h => n1_eq k G σ h)).trans (by kernel_rfl)
def run {R : Type} (k : Nat) (a0 : GV) (a1 : GV) (h : Heap) (fin : GV → Heap → Option R) : Option R := n0 k (fun x v4 h => kend x (fin v4 h)) a0 a1 h
theorem run_eq {R : Type} (k : Nat) (a0 : GV) (a1 : GV) (h : Heap) (fin : GV → Heap → Option R) : kfun PP cfg NN HH k fn.laws_eqInt64S [a0, a1] h fin = run k a0 a1 h fin := (kfun_eq (nt := 26) (c := c0) (show PP.funcs[fn.laws_eqInt64S]? = some Try.f75 by kernel_rfl) (by kernel_rfl) (by kernel_rfl) (fun x σ h => by cases x <;> kernel_rfl)).trans (n0_eq k (fun x v4 h => kend x (fin v4 h)) _ h)
theorem gives {k : Nat} {a0 : GV} {a1 : GV} {v : GV} (e : run k a0 a1 [] finN = some v) : NN fn.laws_eqInt64S [a0, a1] = some v := nω_of (by kernel_rfl) ((run_eq k a0 a1 [] finN).trans e)
end S.laws_eqInt64S
/-! laws_markInt64S -/
namespace S.laws_markInt64S
noncomputable def c0 : Code := bodyOf Try.f76
noncomputable def c1 : Code := cR c0
noncomputable def c2 : Code := cR c1
@[simp] def n2 {R : Type} (k : Nat) (G : KT1 R) (v1 : GV) (h : Heap) : Option R := G .ret v1 h
theorem n2_eq (G : KT1 R) (σ : GS) (h : Heap) : KC k 19 c2 σ h (fun x σ h => G x (σ 4) h) = n2 k G (σ 1) h := by kernel_rfl
noncomputable def c3 : Code := cL c1
noncomputable def c4 : Code := cR c3
noncomputable def c5 : Code := cL c4
noncomputable def c6 : Code := cL c5
noncomputable def c7 : Code := cR c6
noncomputable def c8 : Code := cR c7
@[simp] def n8 {R : Type} (k : Nat) (G : KT4 R) (v0 v1 v4 v5 : GV) (h : Heap) : Option R := (kbin .add v5 (.int .i64 1)).bind fun v11 => G .nrm v0 v1 v4 v11 h
theorem n8_eq (G : KT4 R) (σ : GS) (h : Heap) : KC k 19 c8 σ h (fun x σ h => G x (σ 0) (σ 1) (σ 4) (σ 5) h) = n8 k G (σ 0) (σ 1) (σ 4) (σ 5) h := by kernel_rfl
noncomputable def c9 : Code := cL c7
noncomputable def c10 : Code := cL c9
@[simp] def n10 {R : Type} (k : Nat) (G : KT4 R) (v0 v1 v4 v5 : GV) (h : Heap) : Option R := (kia 1 v0 v5).bind fun v15 => (kstore 1 h v15 v1).bind fun h => (kbin .add v1 (.int .i64 1)).bind fun v17 => G .nrm v0 v17 v4 v5 h
theorem n10_eq (G : KT4 R) (σ : GS) (h : Heap) : KC k 19 c10 σ h (fun x σ h => G x (σ 0) (σ 1) (σ 4) (σ 5) h) = n10 k G (σ 0) (σ 1) (σ 4) (σ 5) h := by kernel_rfl
@[simp] def n9 (G : KT4 R) (v0 v1 v4 v5 : GV) (h : Heap) : Option R := n10 k (fun x v0 v1 v4 v5 h => kb 1 x fun x => G x v0 v1 v4 v5 h) v0 v1 v4 v5 h
theorem n9_eq (G : KT4 R) (σ : GS) (h : Heap) : KC k 19 c9 σ h (fun x σ h => G x (σ 0) (σ 1) (σ 4) (σ 5) h) = n9 k G (σ 0) (σ 1) (σ 4) (σ 5) h := (kblock_eq (a := c10) rfl).trans (n10_eq k (fun x v0 v1 v4 v5 h => kb 1 x fun x => G x v0 v1 v4 v5 h) σ h)
@[simp] def n7 (G : KT4 R) (v0 v1 v4 v5 : GV) (h : Heap) : Option R := n9 k (fun x v0 v1 v4 v5 h => kx x (n8 k G v0 v1 v4 v5 h) (G x v0 v1 v4 v5 h)) v0 v1 v4 v5 h
theorem n7_eq (G : KT4 R) (σ : GS) (h : Heap) : KC k 19 c7 σ h (fun x σ h => G x (σ 0) (σ 1) (σ 4) (σ 5) h) = n7 k G (σ 0) (σ 1) (σ 4) (σ 5) h := (kseq (b := c8) rfl (fun σ h => n8_eq k G σ h)).trans (n9_eq k (fun x v0 v1 v4 v5 h => kx x (n8 k G v0 v1 v4 v5 h) (G x v0 v1 v4 v5 h)) σ h)
noncomputable def c11 : Code := cL c6
@[simp] def n6 (G : KT4 R) (v0 v1 v4 v5 : GV) (h : Heap) : Option R := (klen v0).bind fun v8 => (kbin .lss v5 v8).bind fun v9 => kcond v9 (n7 k G v0 v1 v4 v5 h) (G (.ext 0) v0 v1 v4 v5 h)
theorem n6_eq (G : KT4 R) (σ : GS) (h : Heap) : KC k 19 c6 σ h (fun x σ h => G x (σ 0) (σ 1) (σ 4) (σ 5) h) = n6 k G (σ 0) (σ 1) (σ 4) (σ 5) h := (kseq (a := c11) (b := c7) rfl (fun σ h => n7_eq k G σ h)).trans (by kernel_rfl)
def l5 {R : Type} (k : Nat) (G : KT2 R) : Nat → GV → GV → GV → GV → Heap → Option R
  | 0, _, _, _, _, _ => none
  | r + 1, v0, v1, v4, v5, h => n6 k (fun x v0 v1 v4 v5 h => kx x (l5 k G r v0 v1 v4 v5 h) (G x v1 v4 h)) v0 v1 v4 v5 h
theorem l5_eq {R : Type} (k : Nat) (G : KT2 R) : ∀ (r : Nat) (σ : GS) (h : Heap), kloop (fun σ h K => KC k 19 c6 σ h K) r σ h (fun x σ h => G x (σ 1) (σ 4) h) = l5 k G r (σ 0) (σ 1) (σ 4) (σ 5) h
  | 0, _, _ => rfl
  | r + 1, σ, h => (kloop_eq (fun σ h => l5_eq k G r σ h)).trans (n6_eq k (fun x v0 v1 v4 v5 h => kx x (l5 k G r v0 v1 v4 v5 h) (G x v1 v4 h)) σ h)
@[simp] def n5 (G : KT2 R) (v0 v1 v4 v5 : GV) (h : Heap) : Option R := l5 k G k v0 v1 v4 v5 h
theorem n5_eq (G : KT2 R) (σ : GS) (h : Heap) : KC k 19 c5 σ h (fun x σ h => G x (σ 1) (σ 4) h) = n5 k G (σ 0) (σ 1) (σ 4) (σ 5) h := (kloopc_eq (a := c6) rfl).trans (l5_eq k G k σ h)
@[simp] def n4 (G : KT2 R) (v0 v1 v4 v5 : GV) (h : Heap) : Option R := n5 k (fun x v1 v4 h => kb 0 x fun x => G x v1 v4 h) v0 v1 v4 v5 h
theorem n4_eq (G : KT2 R) (σ : GS) (h : Heap) : KC k 19 c4 σ h (fun x σ h => G x (σ 1) (σ 4) h) = n4 k G (σ 0) (σ 1) (σ 4) (σ 5) h := (kblock_eq (a := c5) rfl).trans (n5_eq k (fun x v1 v4 h => kb 0 x fun x => G x v1 v4 h) σ h)
noncomputable def c12 : Code := cL c3
@[simp] def n3 (G : KT2 R) (v0 v1 v4 : GV) (h : Heap) : Option R := n4 k G v0 v1 v4 (.int .i64 0) h
theorem n3_eq (G : KT2 R) (σ : GS) (h : Heap) : KC k 19 c3 σ h (fun x σ h => G x (σ 1) (σ 4) h) = n3 k G (σ 0) (σ 1) (σ 4) h := (kseq (a := c12) (b := c4) rfl (fun σ h => n4_eq k G σ h)).trans (by kernel_rfl)
@[simp] def n1 (G : KT1 R) (v0 v1 v4 : GV) (h : Heap) : Option R := n3 k (fun x v1 v4 h => kx x (n2 k G v1 h) (G x v4 h)) v0 v1 v4 h
theorem n1_eq (G : KT1 R) (σ : GS) (h : Heap) : KC k 19 c1 σ h (fun x σ h => G x (σ 4) h) = n1 k G (σ 0) (σ 1) (σ 4) h := (kseq (b := c2) rfl (fun σ h => n2_eq k G σ h)).trans (n3_eq k (fun x v1 v4 h => kx x (n2 k G v1 h) (G x v4 h)) σ h)
noncomputable def c13 : Code := cL c0
@[simp] def n0 (G : KT1 R) (v0 v1 : GV) (h : Heap) : Option R := n1 k G v0 v1 (.int .i64 0) h
theorem n0_eq (G : KT1 R) (σ : GS) (h : Heap) : KC k 19 c0 σ h (fun x σ h => G x (σ 4) h) = n0 k G (σ 0) (σ 1) h := (kseq (a := c13) (b := c1) rfl (fun σ h => n1_eq k G σ h)).trans (by kernel_rfl)
def run {R : Type} (k : Nat) (a0 : GV) (a1 : GV) (h : Heap) (fin : GV → Heap → Option R) : Option R := n0 k (fun x v4 h => kend x (fin v4 h)) a0 a1 h
theorem run_eq {R : Type} (k : Nat) (a0 : GV) (a1 : GV) (h : Heap) (fin : GV → Heap → Option R) : kfun PP cfg NN HH k fn.laws_markInt64S [a0, a1] h fin = run k a0 a1 h fin := (kfun_eq (nt := 19) (c := c0) (show PP.funcs[fn.laws_markInt64S]? = some Try.f76 by kernel_rfl) (by kernel_rfl) (by kernel_rfl) (fun x σ h => by cases x <;> kernel_rfl)).trans (n0_eq k (fun x v4 h => kend x (fin v4 h)) _ h)
theorem gives {k : Nat} {a0 : GV} {a1 : GV} {h : Heap} {r : GV × Heap} (e : run k a0 a1 h finH = some r) : HH fn.laws_markInt64S [a0, a1] h = some r := kω_of ((run_eq k a0 a1 h finH).trans e)
end S.laws_markInt64S
/-! laws_szInt64S -/
namespace S.laws_szInt64S
noncomputable def c0 : Code := bodyOf Try.f163
@[simp] def n0 {R : Type} (k : Nat) (G : KT1 R) (v0 v1 : GV) (h : Heap) : Option R := (klen v0).bind fun v7 => (kbin .sub v1 v7).bind fun v8 => (kbin .lss v8 (.int .i64 0)).bind fun v10 => kcond v10 (G .ret (.int .i64 (-1)) h) (G .ret v8 h)
theorem n0_eq (G : KT1 R) (σ : GS) (h : Heap) : KC k 12 c0 σ h (fun x σ h => G x (σ 4) h) = n0 k G (σ 0) (σ 1) h := by kernel_rfl
def run {R : Type} (k : Nat) (a0 : GV) (a1 : GV) (h : Heap) (fin : GV → Heap → Option R) : Option R := n0 k (fun x v4 h => kend x (fin v4 h)) a0 a1 h
theorem run_eq {R : Type} (k : Nat) (a0 : GV) (a1 : GV) (h : Heap) (fin : GV → Heap → Option R) : kfun PP cfg NN HH k fn.laws_szInt64S [a0, a1] h fin = run k a0 a1 h fin := (kfun_eq (nt := 12) (c := c0) (show PP.funcs[fn.laws_szInt64S]? = some Try.f163 by kernel_rfl) (by kernel_rfl) (by kernel_rfl) (fun x σ h => by cases x <;> kernel_rfl)).trans (n0_eq k (fun x v4 h => kend x (fin v4 h)) _ h)
theorem gives {k : Nat} {a0 : GV} {a1 : GV} {v : GV} (e : run k a0 a1 [] finN = some v) : NN fn.laws_szInt64S [a0, a1] = some v := nω_of (by kernel_rfl) ((run_eq k a0 a1 [] finN).trans e)
end S.laws_szInt64S
/-! laws_heldInt64S -/
namespace S.laws_heldInt64S
noncomputable def c0 : Code := bodyOf Try.f164
noncomputable def c1 : Code := cR c0
noncomputable def c2 : Code := cR c1
@[simp] def n2 {R : Type} (k : Nat) (G : KT1 R) (v1 : GV) (h : Heap) : Option R := G .ret v1 h
theorem n2_eq (G : KT1 R) (σ : GS) (h : Heap) : KC k 21 c2 σ h (fun x σ h => G x (σ 4) h) = n2 k G (σ 1) h := by kernel_rfl
noncomputable def c3 : Code := cL c1
noncomputable def c4 : Code := cR c3
noncomputable def c5 : Code := cL c4
noncomputable def c6 : Code := cL c5
noncomputable def c7 : Code := cR c6
noncomputable def c8 : Code := cR c7
@[simp] def n8 {R : Type} (k : Nat) (G : KT4 R) (v0 v1 v4 v5 : GV) (h : Heap) : Option R := (kbin .add v5 (.int .i64 1)).bind fun v11 => G .nrm v0 v1 v4 v11 h
theorem n8_eq (G : KT4 R) (σ : GS) (h : Heap) : KC k 21 c8 σ h (fun x σ h => G x (σ 0) (σ 1) (σ 4) (σ 5) h) = n8 k G (σ 0) (σ 1) (σ 4) (σ 5) h := by kernel_rfl
noncomputable def c9 : Code := cL c7
noncomputable def c10 : Code := cL c9
@[simp] def n10 {R : Type} (k : Nat) (G : KT4 R) (v0 v1 v4 v5 : GV) (h : Heap) : Option R := (kia 1 v0 v5).bind fun v14 => (kload1 h v14).bind fun v15 => (kbin .neq v15 v1).bind fun v17 => kcond v17 (G .ret v0 v1 (.int .i64 (-1)) v5 h) ((kbin .add v1 (.int .i64 1)).bind fun v19 => G .nrm v0 v19 v4 v5 h)
theorem n10_eq (G : KT4 R) (σ : GS) (h : Heap) : KC k 21 c10 σ h (fun x σ h => G x (σ 0) (σ 1) (σ 4) (σ 5) h) = n10 k G (σ 0) (σ 1) (σ 4) (σ 5) h := by kernel_rfl
@[simp] def n9 (G : KT4 R) (v0 v1 v4 v5 : GV) (h : Heap) : Option R := n10 k (fun x v0 v1 v4 v5 h => kb 1 x fun x => G x v0 v1 v4 v5 h) v0 v1 v4 v5 h
theorem n9_eq (G : KT4 R) (σ : GS) (h : Heap) : KC k 21 c9 σ h (fun x σ h => G x (σ 0) (σ 1) (σ 4) (σ 5) h) = n9 k G (σ 0) (σ 1) (σ 4) (σ 5) h := (kblock_eq (a := c10) rfl).trans (n10_eq k (fun x v0 v1 v4 v5 h => kb 1 x fun x => G x v0 v1 v4 v5 h) σ h)
@[simp] def n7 (G : KT4 R) (v0 v1 v4 v5 : GV) (h : Heap) : Option R := n9 k (fun x v0 v1 v4 v5 h => kx x (n8 k G v0 v1 v4 v5 h) (G x v0 v1 v4 v5 h)) v0 v1 v4 v5 h
theorem n7_eq (G : KT4 R) (σ : GS) (h : Heap) : KC k 21 c7 σ h (fun x σ h => G x (σ 0) (σ 1) (σ 4) (σ 5) h) = n7 k G (σ 0) (σ 1) (σ 4) (σ 5) h := (kseq (b := c8) rfl (fun σ h => n8_eq k G σ h)).trans (n9_eq k (fun x v0 v1 v4 v5 h => kx x (n8 k G v0 v1 v4 v5 h) (G x v0 v1 v4 v5 h)) σ h)
noncomputable def c11 : Code := cL c6
@[simp] def n6 (G : KT4 R) (v0 v1 v4 v5 : GV) (h : Heap) : Option R := (klen v0).bind fun v8 => (kbin .lss v5 v8).bind fun v9 => kcond v9 (n7 k G v0 v1 v4 v5 h) (G (.ext 0) v0 v1 v4 v5 h)
theorem n6_eq (G : KT4 R) (σ : GS) (h : Heap) : KC k 21 c6 σ h (fun x σ h => G x (σ 0) (σ 1) (σ 4) (σ 5) h) = n6 k G (σ 0) (σ 1) (σ 4) (σ 5) h := (kseq (a := c11) (b := c7) rfl (fun σ h => n7_eq k G σ h)).trans (by kernel_rfl)
def l5 {R : Type} (k : Nat) (G : KT2 R) : Nat → GV → GV → GV → GV → Heap → Option R
  | 0, _, _, _, _, _ => none
  | r + 1, v0, v1, v4, v5, h => n6 k (fun x v0 v1 v4 v5 h => kx x (l5 k G r v0 v1 v4 v5 h) (G x v1 v4 h)) v0 v1 v4 v5 h
theorem l5_eq {R : Type} (k : Nat) (G : KT2 R) : ∀ (r : Nat) (σ : GS) (h : Heap), kloop (fun σ h K => KC k 21 c6 σ h K) r σ h (fun x σ h => G x (σ 1) (σ 4) h) = l5 k G r (σ 0) (σ 1) (σ 4) (σ 5) h
  | 0, _, _ => rfl
  | r + 1, σ, h => (kloop_eq (fun σ h => l5_eq k G r σ h)).trans (n6_eq k (fun x v0 v1 v4 v5 h => kx x (l5 k G r v0 v1 v4 v5 h) (G x v1 v4 h)) σ h)
@[simp] def n5 (G : KT2 R) (v0 v1 v4 v5 : GV) (h : Heap) : Option R := l5 k G k v0 v1 v4 v5 h
theorem n5_eq (G : KT2 R) (σ : GS) (h : Heap) : KC k 21 c5 σ h (fun x σ h => G x (σ 1) (σ 4) h) = n5 k G (σ 0) (σ 1) (σ 4) (σ 5) h := (kloopc_eq (a := c6) rfl).trans (l5_eq k G k σ h)
@[simp] def n4 (G : KT2 R) (v0 v1 v4 v5 : GV) (h : Heap) : Option R := n5 k (fun x v1 v4 h => kb 0 x fun x => G x v1 v4 h) v0 v1 v4 v5 h
theorem n4_eq (G : KT2 R) (σ : GS) (h : Heap) : KC k 21 c4 σ h (fun x σ h => G x (σ 1) (σ 4) h) = n4 k G (σ 0) (σ 1) (σ 4) (σ 5) h := (kblock_eq (a := c5) rfl).trans (n5_eq k (fun x v1 v4 h => kb 0 x fun x => G x v1 v4 h) σ h)
noncomputable def c12 : Code := cL c3
@[simp] def n3 (G : KT2 R) (v0 v1 v4 : GV) (h : Heap) : Option R := n4 k G v0 v1 v4 (.int .i64 0) h
theorem n3_eq (G : KT2 R) (σ : GS) (h : Heap) : KC k 21 c3 σ h (fun x σ h => G x (σ 1) (σ 4) h) = n3 k G (σ 0) (σ 1) (σ 4) h := (kseq (a := c12) (b := c4) rfl (fun σ h => n4_eq k G σ h)).trans (by kernel_rfl)
@[simp] def n1 (G : KT1 R) (v0 v1 v4 : GV) (h : Heap) : Option R := n3 k (fun x v1 v4 h => kx x (n2 k G v1 h) (G x v4 h)) v0 v1 v4 h
theorem n1_eq (G : KT1 R) (σ : GS) (h : Heap) : KC k 21 c1 σ h (fun x σ h => G x (σ 4) h) = n1 k G (σ 0) (σ 1) (σ 4) h := (kseq (b := c2) rfl (fun σ h => n2_eq k G σ h)).trans (n3_eq k (fun x v1 v4 h => kx x (n2 k G v1 h) (G x v4 h)) σ h)
noncomputable def c13 : Code := cL c0
@[simp] def n0 (G : KT1 R) (v0 v1 : GV) (h : Heap) : Option R := n1 k G v0 v1 (.int .i64 0) h
theorem n0_eq (G : KT1 R) (σ : GS) (h : Heap) : KC k 21 c0 σ h (fun x σ h => G x (σ 4) h) = n0 k G (σ 0) (σ 1) h := (kseq (a := c13) (b := c1) rfl (fun σ h => n1_eq k G σ h)).trans (by kernel_rfl)
def run {R : Type} (k : Nat) (a0 : GV) (a1 : GV) (h : Heap) (fin : GV → Heap → Option R) : Option R := n0 k (fun x v4 h => kend x (fin v4 h)) a0 a1 h
theorem run_eq {R : Type} (k : Nat) (a0 : GV) (a1 : GV) (h : Heap) (fin : GV → Heap → Option R) : kfun PP cfg NN HH k fn.laws_heldInt64S [a0, a1] h fin = run k a0 a1 h fin := (kfun_eq (nt := 21) (c := c0) (show PP.funcs[fn.laws_heldInt64S]? = some Try.f164 by kernel_rfl) (by kernel_rfl) (by kernel_rfl) (fun x σ h => by cases x <;> kernel_rfl)).trans (n0_eq k (fun x v4 h => kend x (fin v4 h)) _ h)
theorem gives {k : Nat} {a0 : GV} {a1 : GV} {v : GV} (e : run k a0 a1 [] finN = some v) : NN fn.laws_heldInt64S [a0, a1] = some v := nω_of (by kernel_rfl) ((run_eq k a0 a1 [] finN).trans e)
end S.laws_heldInt64S
/-! laws_eqAction -/
namespace S.laws_eqAction
noncomputable def c0 : Code := bodyOf Try.f168
@[simp] def n0 {R : Type} (k : Nat) (G : KT1 R) (v0 v1 : GV) (h : Heap) : Option R := kbox v0 h fun v2 h => kbox v1 h fun v3 h => (kfa 0 v2).bind fun v5 => (kload1 h v5).bind fun v6 => (kfa 0 v3).bind fun v7 => (kload1 h v7).bind fun v8 => (kbin .neq v6 v8).bind fun v9 => kcond v9 (G .ret (.bool false) h) ((kfa 1 v2).bind fun v10 => (kload1 h v10).bind fun v11 => (kfa 1 v3).bind fun v12 => (kload1 h v12).bind fun v13 => (kbin .neq v11 v13).bind fun v14 => kcond v14 (G .ret (.bool false) h) ((kfa 2 v2).bind fun v15 => (kload1 h v15).bind fun v16 => (kfa 2 v3).bind fun v17 => (kload1 h v17).bind fun v18 => (kN NN fn.laws_eqInt64S [v16, v18] h).bind fun v19 => (kun .not v19).bind fun v20 => kcond v20 (G .ret (.bool false) h) ((kfa 3 v2).bind fun v21 => (kload1 h v21).bind fun v22 => (kfa 3 v3).bind fun v23 => (kload1 h v23).bind fun v24 => (kbin .neq v22 v24).bind fun v25 => kcond v25 (G .ret (.bool false) h) ((kfa 4 v2).bind fun v26 => (kload1 h v26).bind fun v27 => (kfa 4 v3).bind fun v28 => (kload1 h v28).bind fun v29 => (kN NN fn.laws_eqInt64S [v27, v29] h).bind fun v30 => (kun .not v30).bind fun v31 => kcond v31 (G .ret (.bool false) h) (G .ret (.bool true) h)))))
theorem n0_eq (G : KT1 R) (σ : GS) (h : Heap) : KC k 32 c0 σ h (fun x σ h => G x (σ 4) h) = n0 k G (σ 0) (σ 1) h := by kernel_rfl
def run {R : Type} (k : Nat) (a0 : GV) (a1 : GV) (h : Heap) (fin : GV → Heap → Option R) : Option R := n0 k (fun x v4 h => kend x (fin v4 h)) a0 a1 h
theorem run_eq {R : Type} (k : Nat) (a0 : GV) (a1 : GV) (h : Heap) (fin : GV → Heap → Option R) : kfun PP cfg NN HH k fn.laws_eqAction [a0, a1] h fin = run k a0 a1 h fin := (kfun_eq (nt := 32) (c := c0) (show PP.funcs[fn.laws_eqAction]? = some Try.f168 by kernel_rfl) (by kernel_rfl) (by kernel_rfl) (fun x σ h => by cases x <;> kernel_rfl)).trans (n0_eq k (fun x v4 h => kend x (fin v4 h)) _ h)
theorem gives {k : Nat} {a0 : GV} {a1 : GV} {v : GV} (e : run k a0 a1 [] finN = some v) : NN fn.laws_eqAction [a0, a1] = some v := nω_of (by kernel_rfl) ((run_eq k a0 a1 [] finN).trans e)
end S.laws_eqAction
end
end Go.Proofs.Ytlbnioapepelnaa.G
