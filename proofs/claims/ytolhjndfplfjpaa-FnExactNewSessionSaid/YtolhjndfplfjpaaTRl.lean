/- Data laid into memory: which blocks they have, how they are lent and handed over. -/
import Derived.Test.YtolhjndfplfjpaaTFr
namespace Go.Proofs.Ytolhjndfplfjpaa.G
open Go.RowKit
set_option linter.unusedVariables false
set_option linter.unusedSimpArgs false
/-- Cells, a value, its blocks in order. -/
abbrev Rel (α : Type) := Heap → List GV → α → List Nat → Prop
/-- Element by element. -/
inductive All3 {α : Type} (E : List GV → α → List Nat → Prop) : List (List GV) → List α → List (List Nat) → Prop
  | nil : All3 E [] [] []
  | cons {c : List GV} {x : α} {r : List Nat} {cs : List (List GV)} {xs : List α} {rs : List (List Nat)} : E c x r → All3 E cs xs rs → All3 E (c :: cs) (x :: xs) (r :: rs)
def RFl {α : Type} (mk : α → List GV) : Rel α := fun h c x R => c = mk x ∧ R = []
def RSl {α : Type} (es : Nat) (E : Rel α) : Rel (List α) := fun h c xs R =>
  (xs = [] ∧ R = [] ∧ (c = [.emp] ∨ c = [.nils])) ∨ ∃ b css Rs, c = [.sl b 0 xs.length xs.length es] ∧ h[b]? = some css.flatten ∧ All3 (E h) css xs Rs ∧ R = b :: Rs.flatten
def RSeq {α β : Type} (E : Rel α) (F : Rel β) : Rel (α × β) := fun h c x R => ∃ c1 c2 R1 R2, c = c1 ++ c2 ∧ R = R1 ++ R2 ∧ E h c1 x.1 R1 ∧ F h c2 x.2 R2

/-- What can be said of such data; mk: how they are told, d: how deep they go. -/
structure Good {α : Type} (es d : Nat) (mk : α → List GV) (E : Rel α) : Prop where
  len : ∀ {h c x R}, E h c x R → c.length = es
  mkl : ∀ x, (mk x).length = es
  brw : ∀ {h c x R}, E h c x R → ∀ D, ∃ ys, c.mapM (bor (D + d) h) = some ys ∧ ys.map (·.1) = mk x ∧ (ys.map (·.2)).flatten = R
  frame : ∀ {h c x R h'}, E h c x R → (∀ i ∈ R, h'[i]? = h[i]?) → E h' c x R
  mem : ∀ {h c x R}, E h c x R → ∀ i ∈ R, i < h.length
  own : ∀ {h c x R}, E h c x R → ∀ D b, ∃ c' vis bl, ownL (own (D + d) h) b c = some (c', vis, bl) ∧ vis.map (·.1) = R ∧ ∀ H T, H.length = b → E (H ++ bl ++ T) c' x (List.range' b bl.length)
  cell : ∀ {h c x R}, E h c x R → c.all GV.isCell = true

theorem RFl.good {α : Type} {es : Nat} {mk : α → List GV} (hl : ∀ x, (mk x).length = es) (hp : ∀ x, (mk x).all Pl = true) : Good es 1 mk (RFl mk) where
  len := by rintro h c x R ⟨rfl, rfl⟩; exact hl x
  mkl := hl
  brw := by
    rintro h c x R ⟨rfl, rfl⟩ D
    have : ∀ l : List GV, l.all Pl = true → l.mapM (bor (D + 1) h) = some (l.map fun g => (g, [])) := by
      intro l
      induction l with
      | nil => intro _; rfl
      | cons g l ih =>
        intro hl
        rw [List.all_cons, Bool.and_eq_true] at hl
        rw [List.mapM_cons, ih hl.2]
        cases g <;> first | rfl | cases hl.1
    refine ⟨_, this _ (hp x), ?_, ?_⟩
    · rw [List.map_map]; exact List.map_id _
    · rw [List.map_map]
      generalize mk x = l
      induction l with
      | nil => rfl
      | cons g l ih => rw [List.map_cons, List.flatten_cons, ih]; rfl
  frame := fun h _ => h
  mem := by rintro h c x R ⟨rfl, rfl⟩ i hi; cases hi
  own := by
    rintro h c x R ⟨rfl, rfl⟩ D b
    exact ⟨mk x, [], [], ownL_pl (hp x), rfl, fun H T _ => ⟨rfl, rfl⟩⟩
  cell := by
    rintro h c x R ⟨rfl, rfl⟩
    have := hp x
    rw [List.all_eq_true] at this ⊢
    intro g hg
    have := this g hg
    cases g <;> first | rfl | cases this

theorem mapM_app {f : GV → Option (GV × List Nat)} {l1 l2 : List GV} {y1 y2 : List (GV × List Nat)} (h1 : l1.mapM f = some y1) (h2 : l2.mapM f = some y2) : (l1 ++ l2).mapM f = some (y1 ++ y2) := mapM_append' h1 h2
theorem ownL_app {f : Nat → GV → Option (GV × Vis × List (List GV))} : ∀ {l1 l2 : List GV} {b : Nat} {c1 c2 : List GV} {v1 v2 : Vis} {b1 b2 : List (List GV)}, ownL f b l1 = some (c1, v1, b1) → ownL f (b + b1.length) l2 = some (c2, v2, b2) → ownL f b (l1 ++ l2) = some (c1 ++ c2, v1 ++ v2, b1 ++ b2)
  | [], l2, b, c1, c2, v1, v2, b1, b2, h1, h2 => by
    obtain ⟨⟩ := h1
    exact h2
  | g :: l1, l2, b, c1, c2, v1, v2, b1, b2, h1, h2 => by
    unfold ownL at h1
    obtain ⟨r, h3, h4⟩ := Option.bind_eq_some_iff.1 h1
    obtain ⟨q, h5, h6⟩ := Option.bind_eq_some_iff.1 h4
    obtain ⟨⟩ := h6
    rw [List.cons_append]
    unfold ownL
    rw [h3]
    simp only [Option.bind_some]
    rw [ownL_app (c1 := q.1) (v1 := q.2.1) (b1 := q.2.2) h5 (by rw [List.length_append, ← Nat.add_assoc] at h2; exact h2)]
    simp

theorem RSeq.good {α β : Type} {es es' d : Nat} {mk : α → List GV} {mk' : β → List GV} {E : Rel α} {F : Rel β} (hE : Good es d mk E) (hF : Good es' d mk' F) : Good (es + es') d (fun x : α × β => mk x.1 ++ mk' x.2) (RSeq E F) where
  len := by rintro h c x R ⟨c1, c2, R1, R2, rfl, rfl, h1, h2⟩; rw [List.length_append, hE.len h1, hF.len h2]
  mkl := fun x => by rw [List.length_append, hE.mkl, hF.mkl]
  brw := by
    rintro h c x R ⟨c1, c2, R1, R2, rfl, rfl, h1, h2⟩ D
    obtain ⟨y1, a1, a2, a3⟩ := hE.brw h1 D
    obtain ⟨y2, b1, b2, b3⟩ := hF.brw h2 D
    exact ⟨y1 ++ y2, mapM_app a1 b1, by rw [List.map_append, a2, b2], by rw [List.map_append, List.flatten_append, a3, b3]⟩
  frame := by
    rintro h c x R h' ⟨c1, c2, R1, R2, rfl, rfl, h1, h2⟩ hf
    exact ⟨c1, c2, R1, R2, rfl, rfl, hE.frame h1 fun i hi => hf i (List.mem_append_left _ hi), hF.frame h2 fun i hi => hf i (List.mem_append_right _ hi)⟩
  mem := by
    rintro h c x R ⟨c1, c2, R1, R2, rfl, rfl, h1, h2⟩ i hi
    rcases List.mem_append.1 hi with hi | hi
    · exact hE.mem h1 i hi
    · exact hF.mem h2 i hi
  own := by
    rintro h c x R ⟨c1, c2, R1, R2, rfl, rfl, h1, h2⟩ D b
    obtain ⟨c1', v1, l1, a1, a2, a3⟩ := hE.own h1 D b
    obtain ⟨c2', v2, l2, b1, b2, b3⟩ := hF.own h2 D (b + l1.length)
    refine ⟨c1' ++ c2', v1 ++ v2, l1 ++ l2, ownL_app a1 b1, by rw [List.map_append, a2, b2], fun H T hH => ?_⟩
    refine ⟨c1', c2', List.range' b l1.length, List.range' (b + l1.length) l2.length, rfl, by rw [List.length_append, List.range'_append_1], ?_, ?_⟩
    · have := a3 H (l2 ++ T) hH
      simpa only [List.append_assoc] using this
    · have := b3 (H ++ l1) T (by rw [List.length_append, hH])
      simpa only [List.append_assoc] using this
  cell := by
    rintro h c x R ⟨c1, c2, R1, R2, rfl, rfl, h1, h2⟩
    rw [List.all_append, hE.cell h1, hF.cell h2]; rfl

theorem All3.len {α : Type} {E : List GV → α → List Nat → Prop} {css : List (List GV)} {xs : List α} {Rs : List (List Nat)} (h : All3 E css xs Rs) : css.length = xs.length ∧ Rs.length = xs.length := by
  induction h with
  | nil => exact ⟨rfl, rfl⟩
  | cons _ _ ih => exact ⟨by simp [ih.1], by simp [ih.2]⟩
theorem All3.flen {α : Type} {E : List GV → α → List Nat → Prop} {es : Nat} (hl : ∀ {c x R}, E c x R → c.length = es) {css : List (List GV)} {xs : List α} {Rs : List (List Nat)} (h : All3 E css xs Rs) : css.flatten.length = xs.length * es ∧ ∀ c ∈ css, c.length = es := by
  induction h with
  | nil => exact ⟨by simp, fun c h => by cases h⟩
  | cons a _ ih =>
    refine ⟨?_, fun c hc => ?_⟩
    · rw [List.flatten_cons, List.length_append, ih.1, hl a, List.length_cons, Nat.add_mul]; omega
    · rcases List.mem_cons.1 hc with rfl | hc
      · exact hl a
      · exact ih.2 c hc
theorem All3.frame {α : Type} {E : Rel α} {h h' : Heap} (hf : ∀ {c x R}, E h c x R → (∀ i ∈ R, h'[i]? = h[i]?) → E h' c x R) {css : List (List GV)} {xs : List α} {Rs : List (List Nat)} (ha : All3 (E h) css xs Rs) (hi : ∀ i ∈ Rs.flatten, h'[i]? = h[i]?) : All3 (E h') css xs Rs := by
  induction ha with
  | nil => exact .nil
  | cons a _ ih =>
    rw [List.flatten_cons] at hi
    exact .cons (hf a fun i h => hi i (List.mem_append_left _ h)) (ih fun i h => hi i (List.mem_append_right _ h))
theorem All3.mem {α : Type} {E : List GV → α → List Nat → Prop} {n : Nat} (hm : ∀ {c x R}, E c x R → ∀ i ∈ R, i < n) {css : List (List GV)} {xs : List α} {Rs : List (List Nat)} (ha : All3 E css xs Rs) : ∀ i ∈ Rs.flatten, i < n := by
  induction ha with
  | nil => intro i hi; cases hi
  | cons a _ ih =>
    intro i hi
    rw [List.flatten_cons] at hi
    rcases List.mem_append.1 hi with hi | hi
    · exact hm a i hi
    · exact ih i hi
theorem All3.brw {α : Type} {es d : Nat} {mk : α → List GV} {E : Rel α} (hE : Good es d mk E) {h : Heap} (D : Nat) {css : List (List GV)} {xs : List α} {Rs : List (List Nat)} (ha : All3 (E h) css xs Rs) : ∃ ys, css.flatten.mapM (bor (D + d) h) = some ys ∧ ys.map (·.1) = xs.flatMap mk ∧ (ys.map (·.2)).flatten = Rs.flatten := by
  induction ha with
  | nil => exact ⟨[], rfl, rfl, rfl⟩
  | cons a _ ih =>
    obtain ⟨y1, a1, a2, a3⟩ := hE.brw a D
    obtain ⟨y2, b1, b2, b3⟩ := ih
    exact ⟨y1 ++ y2, mapM_app a1 b1, by rw [List.map_append, a2, b2]; rfl, by rw [List.map_append, List.flatten_append, a3, b3]; rfl⟩
theorem All3.own {α : Type} {es d : Nat} {mk : α → List GV} {E : Rel α} (hE : Good es d mk E) {h : Heap} (D : Nat) {css : List (List GV)} {xs : List α} {Rs : List (List Nat)} (ha : All3 (E h) css xs Rs) : ∀ b, ∃ css' vis bl Rs', ownL (own (D + d) h) b css.flatten = some (css'.flatten, vis, bl) ∧ vis.map (·.1) = Rs.flatten ∧ Rs'.flatten = List.range' b bl.length ∧ ∀ H T, H.length = b → All3 (E (H ++ bl ++ T)) css' xs Rs' := by
  induction ha with
  | nil => exact fun b => ⟨[], [], [], [], rfl, rfl, rfl, fun H T _ => .nil⟩
  | cons a _ ih =>
    intro b
    obtain ⟨c', v1, l1, a1, a2, a3⟩ := hE.own a D b
    obtain ⟨css', v2, l2, Rs', b1, b2, b3, b4⟩ := ih (b + l1.length)
    refine ⟨c' :: css', v1 ++ v2, l1 ++ l2, List.range' b l1.length :: Rs', ?_, by rw [List.map_append, a2, b2]; rfl, by rw [List.flatten_cons, b3, List.length_append, List.range'_append_1], fun H T hH => .cons ?_ ?_⟩
    · rw [List.flatten_cons, List.flatten_cons]; exact ownL_app a1 b1
    · have := a3 H (l2 ++ T) hH
      simpa only [List.append_assoc] using this
    · have := b4 (H ++ l1) T (by rw [List.length_append, hH])
      simpa only [List.append_assoc] using this

theorem RSl.good {α : Type} {es d : Nat} {mk : α → List GV} {E : Rel α} (hE : Good es d mk E) : Good 1 (d + 1) (fun xs : List α => [fzl true es mk xs]) (RSl es E) where
  len := by
    rintro h c xs R (⟨_, _, hc⟩ | ⟨b, css, Rs, rfl, _⟩)
    · rcases hc with rfl | rfl <;> rfl
    · rfl
  mkl := fun _ => rfl
  brw := by
    rintro h c xs R (⟨rfl, rfl, hc⟩ | ⟨b, css, Rs, rfl, hb, ha, rfl⟩) D
    · rcases hc with rfl | rfl
      · exact ⟨[(mt, [])], rfl, rfl, rfl⟩
      · exact ⟨[(mt, [])], rfl, rfl, rfl⟩
    · obtain ⟨ys, a1, a2, a3⟩ := All3.brw hE D ha
      obtain ⟨fl, _⟩ := All3.flen (fun h => hE.len h) ha
      have e : bor (D + (d + 1)) h (.sl b 0 xs.length xs.length es) = some (fzl true es mk xs, b :: Rs.flatten) := by
        rw [← Nat.add_assoc]
        simp only [bor, Option.bind_eq_bind, cellsAt_if, hb, Nat.zero_add, fl, if_true, Option.bind_some, List.drop_zero]
        rw [List.take_of_length_le (by omega), a1]
        simp only [Option.bind_some, Nat.le_refl, if_true]
        cases xs with
        | nil =>
          cases ha
          cases ys with
          | nil => rfl
          | cons y ys => cases a1
        | cons x xs => simp only [List.length_cons, fzl, a2, a3]
      exact ⟨[(fzl true es mk xs, b :: Rs.flatten)], by rw [List.mapM_cons, e]; rfl, rfl, by simp⟩
  frame := by
    rintro h c xs R h' (hc | ⟨b, css, Rs, rfl, hb, ha, rfl⟩) hf
    · exact Or.inl hc
    · exact Or.inr ⟨b, css, Rs, rfl, (hf b (List.mem_cons_self ..)).trans hb, All3.frame (fun a b => hE.frame a b) ha (fun i hi => hf i (List.mem_cons_of_mem _ hi)), rfl⟩
  mem := by
    rintro h c xs R (⟨_, rfl, _⟩ | ⟨b, css, Rs, rfl, hb, ha, rfl⟩) i hi
    · cases hi
    · rcases List.mem_cons.1 hi with rfl | hi
      · exact (List.getElem?_eq_some_iff.1 hb).1
      · exact All3.mem (fun a => hE.mem a) ha i hi
  own := by
    rintro h c xs R (⟨rfl, rfl, hc⟩ | ⟨b0, css, Rs, rfl, hb, ha, rfl⟩) D b
    · refine ⟨c, [], [], ?_, rfl, fun H T _ => Or.inl ⟨rfl, rfl, hc⟩⟩
      rcases hc with rfl | rfl <;> rfl
    · obtain ⟨css', vis, bl, Rs', a1, a2, a3, a4⟩ := All3.own hE D ha (b + 1)
      obtain ⟨fl, _⟩ := All3.flen (fun h => hE.len h) ha
      have e : own (D + (d + 1)) h b (.sl b0 0 xs.length xs.length es) = some (.sl b 0 xs.length xs.length es, (b0, 0, 0 + xs.length * es) :: vis, css'.flatten :: bl) := by
        rw [← Nat.add_assoc]
        simp only [Go.Proofs.Ytolhjndfplfjpaa.G.own, cellsAt_if, hb, Nat.zero_add, fl, if_true, Option.bind_some, List.drop_zero, Nat.le_refl]
        rw [List.take_of_length_le (by omega), a1]
        rfl
      refine ⟨[.sl b 0 xs.length xs.length es], (b0, 0, 0 + xs.length * es) :: vis, css'.flatten :: bl, ?_, ?_, fun H T hH => Or.inr ⟨b, css', Rs', rfl, ?_, ?_, ?_⟩⟩
      · unfold ownL
        rw [e]
        simp [ownL]
      · rw [List.map_cons, a2]
      · rw [List.append_assoc, List.getElem?_append_right (by omega), hH, Nat.sub_self]; rfl
      · have := a4 (H ++ [css'.flatten]) T (by rw [List.length_append, hH]; rfl)
        simpa only [List.append_assoc, List.cons_append, List.nil_append] using this
      · rw [a3, List.length_cons, List.range'_succ]
  cell := by
    rintro h c xs R (⟨_, _, hc⟩ | ⟨b, css, Rs, rfl, _⟩)
    · rcases hc with rfl | rfl <;> rfl
    · rfl

theorem nodupB_of : ∀ {l : List Nat}, l.Nodup → nodupB l = true
  | [], _ => rfl
  | a :: l, h => by
    rw [List.nodup_cons] at h
    unfold nodupB
    rw [Bool.and_eq_true]
    refine ⟨?_, nodupB_of h.2⟩
    rw [List.all_eq_true]
    intro b hb
    cases hh : Nat.beq a b with
    | false => rfl
    | true => exact absurd (Nat.eq_of_beq_eq_true hh ▸ hb) h.1
/-- New memory that is handed over, a slice. -/
theorem Good.fin {α : Type} {d : Nat} {mk : α → List GV} {E : Rel α} (hE : Good 1 d mk E) (hd : d ≤ 9) {h : Heap} {v : GV} {x : α} {R : List Nat} (he : E h [v] x R) (nd : R.Nodup) (b : Nat) : ∃ v' bl, finO b v h = some (v', bl) ∧ ∀ H T, H.length = b → E (H ++ bl ++ T) [v'] x (List.range' b bl.length) := by
  obtain ⟨c', vis, bl, a1, a2, a3⟩ := hE.own he (9 - d) b
  rw [show 9 - d + d = 9 by omega] at a1
  unfold ownL at a1
  obtain ⟨r, b1, b2⟩ := Option.bind_eq_some_iff.1 a1
  obtain ⟨q, b3, b4⟩ := Option.bind_eq_some_iff.1 b2
  obtain ⟨⟩ := b3
  simp only [Option.some.injEq, Prod.mk.injEq, List.append_nil] at b4
  obtain ⟨rfl, rfl, rfl⟩ := b4
  refine ⟨r.1, r.2.2, ?_, a3⟩
  unfold finO ownOk
  simp only [b1, Option.bind_some, a2, nodupB_of nd, cond_true]
/-- Lending. -/
theorem Good.lend1 {α : Type} {d : Nat} {mk : α → List GV} {E : Rel α} (hE : Good 1 d mk E) (hd : d ≤ 9) {h : Heap} {v : GV} {x : α} {R : List Nat} (he : E h [v] x R) : ∃ g, bor 9 h v = some (g, R) ∧ mk x = [g] := by
  obtain ⟨ys, a1, a2, a3⟩ := hE.brw he (9 - d)
  rw [show 9 - d + d = 9 by omega] at a1
  rw [List.mapM_cons] at a1
  obtain ⟨y, b1, b2⟩ := Option.bind_eq_some_iff.1 a1
  simp only [List.mapM_nil, Option.pure_def, Option.bind_some, Option.bind_eq_bind, Option.some.injEq] at b2
  subst b2
  simp only [List.map_cons, List.map_nil, List.flatten_cons, List.flatten_nil, List.append_nil] at a2 a3
  exact ⟨y.1, by rw [b1, ← a3], a2.symm⟩
theorem RSl.len {α : Type} {es : Nat} {E : Rel α} {h : Heap} {v : GV} {xs : List α} {R : List Nat} (he : RSl es E h [v] xs R) : klen v = some (.int .i64 xs.length) := by
  rcases he with ⟨rfl, _, hc⟩ | ⟨b, css, Rs, hv, _⟩
  · rcases hc with hc | hc <;> (injection hc with hc; subst hc; rfl)
  · injection hv with hv; subst hv; rfl
theorem Good.mono {α : Type} {es d d' : Nat} {mk : α → List GV} {E : Rel α} (hE : Good es d mk E) (hd : d ≤ d') : Good es d' mk E where
  len := hE.len
  mkl := hE.mkl
  brw := fun h D => by
    have := hE.brw h (D + (d' - d))
    rwa [show D + (d' - d) + d = D + d' by omega] at this
  frame := hE.frame
  mem := hE.mem
  own := fun h D b => by
    have := hE.own h (D + (d' - d)) b
    rwa [show D + (d' - d) + d = D + d' by omega] at this
  cell := hE.cell
theorem Good.keep {α : Type} {es d : Nat} {mk : α → List GV} {E : Rel α} (hE : Good es d mk E) {h h' : Heap} {c : List GV} {x : α} {R R' : List Nat} (he : E h c x R) (hf : Fr R' h h') (hd : ∀ i ∈ R, i ∉ R') : E h' c x R :=
  hE.frame he fun i hi => hf.2 i (hE.mem he i hi) (hd i hi)
theorem Good.grow {α : Type} {es d : Nat} {mk : α → List GV} {E : Rel α} (hE : Good es d mk E) {h t : Heap} {c : List GV} {x : α} {R : List Nat} (he : E h c x R) : E (h ++ t) c x R :=
  hE.frame he fun i hi => List.getElem?_append_left (hE.mem he i hi)

theorem nd_range {a l : Nat} {X : List Nat} (hX : X.Nodup) (h : ∀ x ∈ X, a + l ≤ x) : (List.range' a l ++ X).Nodup := by
  rw [List.nodup_append]
  refine ⟨List.nodup_range', hX, fun x hx y hy e => ?_⟩
  rw [List.mem_range'_1] at hx
  have := h y hy
  omega
/-- Where blocks lie. -/
def Bd (R : List Nat) (a b : Nat) : Prop := ∀ i ∈ R, a ≤ i ∧ i < b
theorem Bd.no {R : List Nat} {a b p : Nat} (h : Bd R a b) (hp : p < a ∨ b ≤ p) : p ∉ R := fun hi => by have := h p hi; omega
theorem Bd.apart {R R' : List Nat} {a b a' b' : Nat} (h : Bd R a b) (h' : Bd R' a' b') (hp : b ≤ a' ∨ b' ≤ a) : ∀ i ∈ R, i ∉ R' := fun i hi hi' => by have := h i hi; have := h' i hi'; omega
theorem no_nil {p : Nat} : p ∉ ([] : List Nat) := List.not_mem_nil
theorem fresh_one {α : Type} {d : Nat} {mk : α → List GV} {E : Rel α} (hE : Good 1 d mk E) {f : FuncId} {args xs : List GV} {H : Heap} {x : α} (hb : bors H args = some xs) (he : ∃ v bl, OO f xs H.length = some (v, bl) ∧ ∀ H' T, H'.length = H.length → E (H' ++ bl ++ T) [v] x (List.range' H.length bl.length)) :
    ∃ v R H', kF false HH f args H = some (v, H') ∧ E H' [v] x R ∧ R.Nodup ∧ Bd R H.length H'.length ∧ Fr [] H H' ∧ H.length ≤ H'.length := by
  obtain ⟨c, bl, h1, h2⟩ := he
  refine ⟨c, _, H ++ bl, by rw [kF_OO, hb]; simp [h1], by simpa using h2 H [] rfl, List.nodup_range', fun i hi => ?_, .app, by simp⟩
  rw [List.mem_range'_1] at hi
  simp; omega
theorem bors_one {α : Type} {es d : Nat} {mk : α → List GV} {E : Rel α} (hE : Good es d mk E) (hd : d + 1 ≤ 9) {H : Heap} {v : GV} {x : List α} {R : List Nat} (he : RSl es E H [v] x R) {gs xs : List GV} (h : bors H gs = some xs) : bors H (v :: gs) = some (fzl true es mk x :: xs) := by
  obtain ⟨g, h1, h2⟩ := (RSl.good hE).lend1 hd he
  injection h2 with h2
  rw [bors_cons, h1, h, ← h2]; rfl
end Go.Proofs.Ytolhjndfplfjpaa.G
