/- Chains: the reference's ChainOk. -/
import Derived.Test.YtopmnigfklgnkaaTChain2
namespace Go.Proofs.Ytopmnigfklgnkaa.G
open Go.RowKit
set_option linter.unusedVariables false
set_option linter.unusedSimpArgs false

theorem bor_sl_cs {d : Nat} {h : Heap} {i n : Nat} {xs : List ByteArray} {cells : List GV} (hh : h[i]? = some cells) (e : cells = xs.flatMap cs) (hn : n = xs.length) : bor (d + 2) h (.sl i 0 n n 1) = some (fzl true 1 cs xs, i :: (xs.map fun _ => ([] : List Nat)).flatten) := by
  subst e; subst hn
  have hl : (xs.flatMap cs).length = xs.length * 1 := len_flat (mk := cs) (es := 1) (fun _ => rfl) xs
  have hm : ∀ (ys : List ByteArray), (ys.flatMap cs).mapM (bor (d + 1) h) = some (ys.map fun a => (GV.str a, ([] : List Nat))) := by
    intro ys
    induction ys with
    | nil => rfl
    | cons y ys ih => rw [List.flatMap_cons, cs, List.singleton_append, List.mapM_cons, ih]; simp
  unfold bor
  simp only [cellsAt_if, hh, Nat.zero_add, hl, if_true, Option.bind_some, List.drop_zero, Option.bind_eq_bind]
  rw [List.take_of_length_le (by omega), hm]
  simp only [Option.bind_some, Nat.le_refl, if_true]
  cases xs with
  | nil => rfl
  | cons x xs =>
    simp only [List.length_cons, fzl, List.map_map, Option.some.injEq, Prod.mk.injEq, GV.fz.injEq, true_and]
    refine ⟨?_, ?_⟩
    · have : ∀ (ys : List ByteArray), ys.flatMap cs = ys.map GV.str := by
        intro ys
        induction ys with
        | nil => rfl
        | cons y ys ih => rw [List.flatMap_cons, ih]; rfl
      rw [this]; rfl
    · rfl
@[simp] theorem kborr_fzl {h : Heap} {xs : List ByteArray} : kborr h (fzl true 1 cs xs) = [] := by simp [kborr]
theorem spec_ChainOk_n32 (xs : CServers) (ds : List (List ByteArray)) (us : List (List Int)) (s b : List ByteArray × Int) (d : List ByteArray) (i : Nat) (t : Heap) (v3 : GV) (hi : i < ds.length) (hd : ds[i]? = some d) (l1 : s.1.length ≤ 1048576) (l2 : b.1.length ≤ 1048576) (l3 : d.length ≤ 1048576) :
    ∃ t', ∀ {R : Type} (k : Nat) (G : GX → GV → GV → GV → GV → GV → GV → GV → Heap → Option R),
      S.spec_ChainOk.n32 k G (.ptr 0 0 3) (.bool false) v3 (.int .i64 (i : Int)) (.ptr (t.length + 1) 0 2) (.ptr (t.length + 2) 0 2) (ChainCells xs ds us :: (t ++ [[fzl true 1 cs s.1, .int .i64 s.2], [fzl true 1 cs b.1, .int .i64 b.2]])) =
      G .nrm (.ptr 0 0 3) (.bool false) v3 (.int .i64 (i : Int)) (.ptr (t.length + 1) 0 2) (.ptr (t.length + 2) 0 2) (.bool (decide (b.2 < s.2) || !decide (s.1 = b.1 ++ d))) (ChainCells xs ds us :: (t ++ [[fzl true 1 cs s.1, .int .i64 s.2], [fzl true 1 cs b.1, .int .i64 b.2]] ++ t')) := by
  have g1 : (i : Int) < (ds.length : Int) := by omega
  by_cases c1 : b.2 < s.2
  · refine ⟨[], fun k G => ?_⟩
    simp [get_app, get_app0, c1, chk]
  have hO := fun n => spec_l17Texts_spec b.1 (by omega) n
  have hs := spec_l17Same_spec s.1 (b.1 ++ d) (by omega)
  by_cases e1 : b.1.length = 0
  · have hb : b.1 = [] := List.eq_nil_of_length_eq_zero e1
    simp only [e1, if_true] at hO
    have ka := fun h => kapp_emp (mk := cs) (es := 1) (b := 16) (z := [.str { data := #[] }]) (t := true) (xs := d) (h := h) (fun _ => rfl) (fun _ => rfl) rfl (by omega) (by omega)
    by_cases e2 : d.length = 0
    · have hd' : d = [] := List.eq_nil_of_length_eq_zero e2
      refine ⟨[], fun k G => ?_⟩
      simp only [e2, if_true] at ka
      simp only [hb, hd', List.append_nil, fzl_nil] at hs hO ka
      simp [get_app, get_app0, c1, chk, meets, hb, hO, g1, hd, hd', hs, ka]
    · refine ⟨[d.flatMap cs], fun k G => ?_⟩
      simp only [e2, if_false] at ka
      simp only [hb, List.nil_append, fzl_nil] at hs hO
      simp [get_app, get_app0, c1, chk, meets, touches, hb, hO, g1, hd, hs, ka]
      rw [bor_sl_cs (d := 7) (xs := d) (by rw [List.getElem?_cons_succ, get_app]; rfl) rfl rfl]
      have q : ¬ (t.length + 2 ≤ t.length) := by omega
      simp [hs, q]
  · simp only [e1, if_false] at hO
    have ka := fun (h : Heap) (i : Nat) (hh : h[i]? = some (b.1.flatMap cs)) => kapp_sl (n := 0) (mk := cs) (es := 1) (b := 16) (z := [.str { data := #[] }]) (t := true) (ys := b.1) (xs := d) (h := h) (i := i) (fun _ => rfl) (fun _ => rfl) rfl (by omega) (by omega) (by omega) hh
    refine ⟨[(b.1 ++ d).flatMap cs], fun k G => ?_⟩
    simp [get_app, get_app0, c1, chk, meets, touches, hO, g1, hd]
    rw [ka _ _ (by rw [List.getElem?_cons_succ, get_app]; rfl)]
    simp [get_app, get_app0, c1, chk, meets, touches, hO, g1, hd, set_app]
    rw [bor_sl_cs (d := 7) (xs := b.1 ++ d) (n := b.1.length + d.length) (cells := b.1.flatMap cs ++ d.flatMap cs) (by rw [List.getElem?_cons_succ, get_app]; rfl) (by rw [List.flatMap_append]) (by rw [List.length_append])]
    have q : ¬ (t.length + 3 ≤ t.length) := by omega
    simp [hs, q]
open Classical in
theorem spec_ChainOk_l37 (log : List ByteArray) (sure : Int) (hm : log.length ≤ 1048576) (b : Nat) (h : Heap) (hh : h[b]? = some [fzl true 1 cs log, .int .i64 sure]) (v1 v2 v3 v4 : GV) (r : Nat) (hr : log.length < r) :
    ∀ {R : Type} (k : Nat) (G : GX → GV → GV → GV → GV → GV → Heap → Option R), S.spec_ChainOk.l37 k G r v1 v2 v3 v4 (.ptr b 0 2) (.int .i64 0) h =
      if (∀ i, 0 ≤ i → i < log.length → (log[i]?.getD default).size ≤ 200) then G (.ext 2) v1 v2 v3 v4 (.ptr b 0 2) h else G .ret v1 (.bool false) v3 v4 (.ptr b 0 2) h := by
  intro R k G
  refine (loop_all (f := fun r j => S.spec_ChainOk.l37 k G r v1 v2 v3 v4 (.ptr b 0 2) (.int .i64 (j : Int)) h) (n := log.length) (P := fun j => (log[j]?.getD default).size ≤ 200) (A := G (.ext 2) v1 v2 v3 v4 (.ptr b 0 2) h) (B := G .ret v1 (.bool false) v3 v4 (.ptr b 0 2) h) (fun j r hj => ?_) (fun r => ?_) r 0 (by omega) (by omega))
  · have g1 : (j : Int) < log.length := by omega
    have w := wrap_succ (n := j) (by simp only [maxLen]; omega)
    rw [get_of hj]
    by_cases hp : log[j].size ≤ 200
    · have : ¬ ((200 : Int) < (log[j].size : Int)) := by omega
      refine Eq.trans ?_ (if_pos hp).symm
      simp only [S.spec_ChainOk.l37]
      simp [hh, g1, w, get_of hj, this]
    · have : (200 : Int) < (log[j].size : Int) := by omega
      refine Eq.trans ?_ (if_neg hp).symm
      simp only [S.spec_ChainOk.l37]
      simp [hh, g1, w, get_of hj, this]
  · simp only [S.spec_ChainOk.l37]
    simp [hh]
/-- The number ahead of place i. -/
def prevUp (a : Int) (us : List Int) (i : Nat) : Int := (a :: us)[i]?.getD 0
open Classical in
theorem spec_ChainOk_l21 (xs : CServers) (ds : List (List ByteArray)) (us : List (List Int)) (u : List Int) (a : Int) (lb : List ByteArray) (sb : Int) (i : Nat) (hi : i < us.length) (hu : us[i]? = some u) (hm : u.length ≤ 1048576) (b : Nat) (h : Heap) (h0 : h[0]? = some (ChainCells xs ds us)) (hh : h[b]? = some [fzl true 1 cs lb, .int .i64 sb]) (v3 : GV) (r : Nat) (hr : u.length < r) :
    ∀ {R : Type} (k : Nat) (G : GX → GV → GV → GV → GV → Heap → Option R), S.spec_ChainOk.l21 k G r (.ptr 0 0 3) (.bool false) v3 (.int .i64 (i : Int)) (.ptr b 0 2) (.int .i64 a) (.int .i64 0) h =
      if (∀ i, 0 ≤ i → i < u.length → prevUp a u i ≤ u[i]?.getD 0 ∧ u[i]?.getD 0 ≤ sb) then G (.ext 4) (.ptr 0 0 3) (.bool false) v3 (.int .i64 (i : Int)) h else G .ret (.ptr 0 0 3) (.bool false) v3 (.int .i64 (i : Int)) h := by
  intro R k G
  refine (loop_all (f := fun r j => S.spec_ChainOk.l21 k G r (.ptr 0 0 3) (.bool false) v3 (.int .i64 (i : Int)) (.ptr b 0 2) (.int .i64 (prevUp a u j)) (.int .i64 (j : Int)) h) (n := u.length) (P := fun i => prevUp a u i ≤ u[i]?.getD 0 ∧ u[i]?.getD 0 ≤ sb) (A := G (.ext 4) (.ptr 0 0 3) (.bool false) v3 (.int .i64 (i : Int)) h) (B := G .ret (.ptr 0 0 3) (.bool false) v3 (.int .i64 (i : Int)) h) (fun j r hj => ?_) (fun r => ?_) r 0 (by omega) (by omega))
  · have g0 : (i : Int) < us.length := by omega
    have g1 : (j : Int) < u.length := by omega
    have w := wrap_succ (n := j) (by simp only [maxLen]; omega)
    have hn : prevUp a u (j + 1) = u[j] := by unfold prevUp; rw [List.getElem?_cons_succ, get_of hj]; rfl
    have sp := spec_l1In_spec u[j] (prevUp a u j) sb
    rw [get_of hj]
    by_cases hp : prevUp a u j ≤ u[j] ∧ u[j] ≤ sb
    · rw [decide_eq_true hp] at sp
      refine Eq.trans ?_ (if_pos hp).symm
      simp only [S.spec_ChainOk.l21]
      simp [h0, hh, g0, g1, w, hu, get_of hj, sp, hn]
    · rw [decide_eq_false hp] at sp
      refine Eq.trans ?_ (if_neg hp).symm
      simp only [S.spec_ChainOk.l21]
      simp [h0, hh, g0, g1, w, hu, get_of hj, sp]
  · have g0 : (i : Int) < us.length := by omega
    simp only [S.spec_ChainOk.l21]
    simp [h0, hh, hu, g0]
theorem upAll (a b : Int) (xs : List Int) : (∀ i, 0 ≤ i → i < xs.length → prevUp a xs i ≤ xs[i]?.getD 0 ∧ xs[i]?.getD 0 ≤ b) ↔ (UpP xs ∧ ∀ n ∈ xs, a ≤ n ∧ n ≤ b) := by
  constructor
  · intro h
    have lo : ∀ i, i < xs.length → a ≤ xs[i]?.getD 0 := by
      intro i
      induction i with
      | zero => intro hi; exact (h 0 (by omega) hi).1
      | succ i ih =>
        intro hi
        have h1 := (h (i + 1) (by omega) hi).1
        have h2 := ih (by omega)
        unfold prevUp at h1
        rw [List.getElem?_cons_succ] at h1
        omega
    refine ⟨fun j hj hl => ?_, fun n hn => ?_⟩
    · have h1 := (h j (by omega) hl).1
      obtain ⟨i, rfl⟩ : ∃ i, j = i + 1 := ⟨j - 1, by omega⟩
      unfold prevUp at h1
      rw [List.getElem?_cons_succ] at h1
      exact h1
    · obtain ⟨i, hi, rfl⟩ := List.getElem_of_mem hn
      have h1 := lo i hi
      have h2 := (h i (by omega) hi).2
      rw [get_of hi] at h1 h2
      exact ⟨h1, h2⟩
  · rintro ⟨h1, h2⟩ i _ hi
    have h3 := h2 xs[i] (List.getElem_mem hi)
    refine ⟨?_, by rw [get_of hi]; exact h3.2⟩
    cases i with
    | zero => rw [get_of hi]; exact h3.1
    | succ i =>
      have := h1 (i + 1) (by omega) hi
      unfold prevUp
      rw [List.getElem?_cons_succ]
      exact this
/-- What the reference asks of server i. -/
def RoundP (xs : CServers) (ds : List (List ByteArray)) (us : List (List Int)) (i : Nat) : Prop := ServerP (xs[i]?.getD ([], 0)).1 (xs[i]?.getD ([], 0)).2 ∧ (i < xs.length - 1 → StepP xs ds us i) ∧ (i = xs.length - 1 → (xs[xs.length - 1]?.getD ([], 0)).2 = (xs[xs.length - 1]?.getD ([], 0)).1.length)
open Classical in
theorem spec_ChainOk_step (xs : CServers) (ds : List (List ByteArray)) (us : List (List Int)) (hm : okChain (xs, ds, us)) (h1 : 1 ≤ xs.length ∧ xs.length ≤ 5) (h2 : ds.length + 1 = xs.length) (h3 : us.length + 1 = xs.length)
    (j r : Nat) (t : Heap) (hj : j < xs.length - 1) :
    if RoundP xs ds us j then ∃ t', ∀ {R : Type} (k : Nat) (hk : 1048576 < k) (G : GX → GV → Heap → Option R), S.spec_ChainOk.l7 k G (r + 1) (.ptr 0 0 3) (.bool false) (.int .i64 (xs.length : Int)) (.int .i64 (j : Int)) (ChainCells xs ds us :: t) = S.spec_ChainOk.l7 k G r (.ptr 0 0 3) (.bool false) (.int .i64 (xs.length : Int)) (.int .i64 ((j + 1 : Nat) : Int)) (ChainCells xs ds us :: t')
    else ∃ t', ∀ {R : Type} (k : Nat) (hk : 1048576 < k) (G : GX → GV → Heap → Option R), S.spec_ChainOk.l7 k G (r + 1) (.ptr 0 0 3) (.bool false) (.int .i64 (xs.length : Int)) (.int .i64 (j : Int)) (ChainCells xs ds us :: t) = G .ret (.bool false) (ChainCells xs ds us :: t') := by
  obtain ⟨⟨hx, hx'⟩, ⟨hd, hd'⟩, ⟨hu, hu'⟩⟩ := hm
  simp only at hx hx' hd hd' hu hu'
  have j0 : j < xs.length := by omega
  have j1 : j + 1 < xs.length := by omega
  have jd : j < ds.length := by omega
  have ju : j < us.length := by omega
  have w2 := wrap_succ (n := j) (by simp only [maxLen]; omega)
  have w1 : IntKind.i64.wrap ((xs.length : Int) - 1) = (xs.length : Int) - 1 := by rw [wrap_id] <;> omega
  have g2 : (j : Int) < (xs.length : Int) := by omega
  have g3 : (0 : Int) ≤ (j : Int) + 1 ∧ (j : Int) + 1 < (xs.length : Int) := by omega
  have g6 : ¬ ((j : Int) = (xs.length : Int) - 1) := by omega
  have t1 : ((j : Int) + 1).toNat = j + 1 := by omega
  have hP : RoundP xs ds us j ↔ ServerP xs[j].1 xs[j].2 ∧ (xs[j].2 ≤ xs[j + 1].2 ∧ xs[j].1 = xs[j + 1].1 ++ ds[j] ∧ (UpP us[j] ∧ ∀ n ∈ us[j], xs[j].2 ≤ n ∧ n ≤ xs[j + 1].2)) := by
    unfold RoundP StepP
    rw [get_of j0, get_of j1, get_of jd, get_of ju]
    exact ⟨fun h => ⟨h.1, h.2.1 hj⟩, fun h => ⟨h.1, fun _ => h.2, fun h' => absurd h' (by omega)⟩⟩
  have bl0 : xs[j].1.length ≤ 1048576 := (hx' _ (List.getElem_mem j0)).1
  have bl1 : xs[j + 1].1.length ≤ 1048576 := (hx' _ (List.getElem_mem j1)).1
  have bd : ds[j].length ≤ 1048576 := (hd' _ (List.getElem_mem jd)).1
  have bu : us[j].length ≤ 1048576 := (hu' _ (List.getElem_mem ju))
  by_cases c1 : xs[j].1.length ≤ 60
  case neg =>
    rw [if_neg (fun h => c1 (hP.1 h).1.1)]
    have c1' : (60 : Int) < xs[j].1.length := by omega
    refine ⟨t ++ [[fzl true 1 cs xs[j].1, .int .i64 xs[j].2]], fun {R} k hk G => ?_⟩
    simp only [S.spec_ChainOk.l7]
    simp [g2, get_of j0, get_app, get_app0, set_app, set_app0, c1']
  have c1' : ¬ ((60 : Int) < xs[j].1.length) := by omega
  have s1 := spec_l1In_spec xs[j].2 0 xs[j].1.length
  by_cases c2 : 0 ≤ xs[j].2 ∧ xs[j].2 ≤ xs[j].1.length
  case neg =>
    rw [if_neg (fun h => c2 (hP.1 h).1.2.1)]
    rw [decide_eq_false c2] at s1
    refine ⟨t ++ [[fzl true 1 cs xs[j].1, .int .i64 xs[j].2]], fun {R} k hk G => ?_⟩
    simp only [S.spec_ChainOk.l7]
    simp [g2, get_of j0, get_app, get_app0, set_app, set_app0, c1', s1]
  rw [decide_eq_true c2] at s1
  have s2 := fun {R : Type} (k : Nat) (hk : 1048576 < k) (G : GX → GV → GV → GV → GV → GV → Heap → Option R) => spec_ChainOk_l37 xs[j].1 xs[j].2 bl0 (t.length + 1) (ChainCells xs ds us :: (t ++ [[fzl true 1 cs xs[j].1, .int .i64 xs[j].2]])) (by rw [List.getElem?_cons_succ, get_app0]; rfl) (.ptr 0 0 3) (.bool false) (.int .i64 (xs.length : Int)) (.int .i64 (j : Int)) k (by omega) k G
  have e3 : (∀ i, 0 ≤ i → i < xs[j].1.length → (xs[j].1[i]?.getD default).size ≤ 200) ↔ ∀ a ∈ xs[j].1, a.size ≤ 200 := by
    constructor
    · intro h a ha
      obtain ⟨i, hi, rfl⟩ := List.getElem_of_mem ha
      have := h i (by omega) hi
      rwa [get_of hi] at this
    · intro h i _ hi
      rw [get_of hi]
      exact h _ (List.getElem_mem hi)
  by_cases c3 : ∀ a ∈ xs[j].1, a.size ≤ 200
  case neg =>
    rw [if_neg (fun h => c3 (hP.1 h).1.2.2)]
    refine ⟨t ++ [[fzl true 1 cs xs[j].1, .int .i64 xs[j].2]], fun {R} k hk G => ?_⟩
    have s3 := fun (G : GX → GV → GV → GV → GV → GV → Heap → Option R) => (s2 k hk G).trans (if_neg (fun h => c3 (e3.1 h)))
    simp only [S.spec_ChainOk.l7]
    simp [g2, get_of j0, get_app, get_app0, set_app, set_app0, c1', s1, s3]
  have hS : ServerP xs[j].1 xs[j].2 := ⟨c1, c2, c3⟩
  obtain ⟨t2, s4⟩ := spec_ChainOk_n32 xs ds us xs[j] xs[j + 1] ds[j] j t (.int .i64 (xs.length : Int)) jd (get_of jd) bl0 bl1 bd
  by_cases c4 : xs[j].2 ≤ xs[j + 1].2 ∧ xs[j].1 = xs[j + 1].1 ++ ds[j]
  case neg =>
    rw [if_neg (fun h => c4 ⟨(hP.1 h).2.1, (hP.1 h).2.2.1⟩)]
    refine ⟨t ++ [[fzl true 1 cs xs[j].1, .int .i64 xs[j].2], [fzl true 1 cs xs[j + 1].1, .int .i64 xs[j + 1].2]] ++ t2, fun {R} k hk G => ?_⟩
    have s3 := fun (G : GX → GV → GV → GV → GV → GV → Heap → Option R) => (s2 k hk G).trans (if_pos (e3.2 c3))
    have c4' : (decide (xs[j + 1].2 < xs[j].2) || !decide (xs[j].1 = xs[j + 1].1 ++ ds[j])) = true := by
      rw [Bool.or_eq_true, decide_eq_true_eq, Bool.not_eq_true', decide_eq_false_iff_not]
      by_cases q : xs[j].2 ≤ xs[j + 1].2
      · exact Or.inr (fun h => c4 ⟨q, h⟩)
      · exact Or.inl (by omega)
    simp only [c4'] at s4
    simp only [S.spec_ChainOk.l7]
    simp [-S.spec_ChainOk.n32, g2, g3.1, g3.2, g6, t1, w1, w2, get_of j0, get_of j1, get_app, get_app0, set_app, set_app0, c1', s1, s3, s4]
  have c4' : (decide (xs[j + 1].2 < xs[j].2) || !decide (xs[j].1 = xs[j + 1].1 ++ ds[j])) = false := by
    rw [Bool.or_eq_false_iff, decide_eq_false_iff_not, Bool.not_eq_false', decide_eq_true_eq]
    exact ⟨by omega, c4.2⟩
  simp only [c4'] at s4
  have s5 := fun {R : Type} (k : Nat) (hk : 1048576 < k) (G : GX → GV → GV → GV → GV → Heap → Option R) => spec_ChainOk_l21 xs ds us us[j] xs[j].2 xs[j + 1].1 xs[j + 1].2 j ju (get_of ju) bu (t.length + 2) (ChainCells xs ds us :: (t ++ [[fzl true 1 cs xs[j].1, .int .i64 xs[j].2], [fzl true 1 cs xs[j + 1].1, .int .i64 xs[j + 1].2]] ++ t2)) rfl (by rw [List.getElem?_cons_succ, List.append_assoc, get_app]; rfl) (.int .i64 (xs.length : Int)) k (by omega) k G
  rw [List.append_assoc] at s5
  by_cases c5 : UpP us[j] ∧ ∀ n ∈ us[j], xs[j].2 ≤ n ∧ n ≤ xs[j + 1].2
  case neg =>
    rw [if_neg (fun h => c5 (hP.1 h).2.2.2)]
    refine ⟨t ++ [[fzl true 1 cs xs[j].1, .int .i64 xs[j].2], [fzl true 1 cs xs[j + 1].1, .int .i64 xs[j + 1].2]] ++ t2, fun {R} k hk G => ?_⟩
    have s3 := fun (G : GX → GV → GV → GV → GV → GV → Heap → Option R) => (s2 k hk G).trans (if_pos (e3.2 c3))
    have s6 := fun (G : GX → GV → GV → GV → GV → Heap → Option R) => (s5 k hk G).trans (if_neg (fun h => c5 ((upAll _ _ _).1 h)))
    simp only [S.spec_ChainOk.l7]
    simp [-S.spec_ChainOk.n32, g2, g3.1, g3.2, g6, t1, w1, w2, get_of j0, get_of j1, get_app, get_app0, set_app, set_app0, c1', s1, s3, s4]
    simp at s6
    simp [s6]
  rw [if_pos (hP.2 ⟨hS, c4.1, c4.2, c5⟩)]
  refine ⟨t ++ [[fzl true 1 cs xs[j].1, .int .i64 xs[j].2], [fzl true 1 cs xs[j + 1].1, .int .i64 xs[j + 1].2]] ++ t2, fun {R} k hk G => ?_⟩
  have s3 := fun (G : GX → GV → GV → GV → GV → GV → Heap → Option R) => (s2 k hk G).trans (if_pos (e3.2 c3))
  have s6 := fun (G : GX → GV → GV → GV → GV → Heap → Option R) => (s5 k hk G).trans (if_pos ((upAll _ _ _).2 c5))
  simp only [S.spec_ChainOk.l7]
  simp [-S.spec_ChainOk.n32, g2, g3.1, g3.2, g6, t1, w1, w2, get_of j0, get_of j1, get_app, get_app0, set_app, set_app0, c1', s1, s3, s4]
  simp at s6
  simp [s6, w2]
open Classical in
theorem spec_ChainOk_last (xs : CServers) (ds : List (List ByteArray)) (us : List (List Int)) (hm : okChain (xs, ds, us)) (h1 : 1 ≤ xs.length ∧ xs.length ≤ 5) (r : Nat) (t : Heap) :
    ∃ t', ∀ {R : Type} (k : Nat) (hk : 1048576 < k) (G : GX → GV → Heap → Option R), S.spec_ChainOk.l7 k G (r + 1) (.ptr 0 0 3) (.bool false) (.int .i64 (xs.length : Int)) (.int .i64 ((xs.length - 1 : Nat) : Int)) (ChainCells xs ds us :: t) = G .ret (.bool (decide (RoundP xs ds us (xs.length - 1)))) (ChainCells xs ds us :: t') := by
  obtain ⟨⟨hx, hx'⟩, ⟨hd, hd'⟩, ⟨hu, hu'⟩⟩ := hm
  simp only at hx hx' hd hd' hu hu'
  obtain ⟨j, hl⟩ : ∃ l, xs.length = l + 1 := ⟨xs.length - 1, by omega⟩
  have q2 : xs.length - 1 = j := by omega
  have j0 : j < xs.length := by omega
  have w1 : IntKind.i64.wrap ((xs.length : Int) - 1) = (xs.length : Int) - 1 := by rw [wrap_id] <;> omega
  have g2 : (j : Int) < (xs.length : Int) := by omega
  have g6 : (xs.length : Int) - 1 = (j : Int) := by omega
  have hP : RoundP xs ds us j ↔ ServerP xs[j].1 xs[j].2 ∧ xs[j].2 = xs[j].1.length := by
    unfold RoundP
    rw [q2, get_of j0]
    exact ⟨fun h => ⟨h.1, h.2.2 rfl⟩, fun h => ⟨h.1, fun h' => absurd h' (by omega), fun _ => h.2⟩⟩
  have bl0 : xs[j].1.length ≤ 1048576 := (hx' _ (List.getElem_mem j0)).1
  rw [q2]
  refine ⟨t ++ [[fzl true 1 cs xs[j].1, .int .i64 xs[j].2]], fun {R} k hk G => ?_⟩
  by_cases c1 : xs[j].1.length ≤ 60
  case neg =>
    rw [decide_eq_false (fun h => c1 (hP.1 h).1.1)]
    have c1' : (60 : Int) < xs[j].1.length := by omega
    simp only [S.spec_ChainOk.l7]
    simp [g2, get_of j0, get_app, get_app0, set_app, set_app0, c1']
  have c1' : ¬ ((60 : Int) < xs[j].1.length) := by omega
  have s1 := spec_l1In_spec xs[j].2 0 xs[j].1.length
  by_cases c2 : 0 ≤ xs[j].2 ∧ xs[j].2 ≤ xs[j].1.length
  case neg =>
    rw [decide_eq_false (fun h => c2 (hP.1 h).1.2.1)]
    rw [decide_eq_false c2] at s1
    simp only [S.spec_ChainOk.l7]
    simp [g2, get_of j0, get_app, get_app0, set_app, set_app0, c1', s1]
  rw [decide_eq_true c2] at s1
  have s2 := fun (G : GX → GV → GV → GV → GV → GV → Heap → Option R) => spec_ChainOk_l37 xs[j].1 xs[j].2 bl0 (t.length + 1) (ChainCells xs ds us :: (t ++ [[fzl true 1 cs xs[j].1, .int .i64 xs[j].2]])) (by rw [List.getElem?_cons_succ, get_app0]; rfl) (.ptr 0 0 3) (.bool false) (.int .i64 (xs.length : Int)) (.int .i64 (j : Int)) k (by omega) k G
  have e3 : (∀ i, 0 ≤ i → i < xs[j].1.length → (xs[j].1[i]?.getD default).size ≤ 200) ↔ ∀ a ∈ xs[j].1, a.size ≤ 200 := by
    constructor
    · intro h a ha
      obtain ⟨i, hi, rfl⟩ := List.getElem_of_mem ha
      have := h i (by omega) hi
      rwa [get_of hi] at this
    · intro h i _ hi
      rw [get_of hi]
      exact h _ (List.getElem_mem hi)
  by_cases c3 : ∀ a ∈ xs[j].1, a.size ≤ 200
  case neg =>
    rw [decide_eq_false (fun h => c3 (hP.1 h).1.2.2)]
    have s3 := fun (G : GX → GV → GV → GV → GV → GV → Heap → Option R) => (s2 G).trans (if_neg (fun h => c3 (e3.1 h)))
    simp only [S.spec_ChainOk.l7]
    simp [g2, get_of j0, get_app, get_app0, set_app, set_app0, c1', s1, s3]
  have hS : ServerP xs[j].1 xs[j].2 := ⟨c1, c2, c3⟩
  have e4 : decide (RoundP xs ds us j) = decide (xs[j].2 = xs[j].1.length) := by
    rw [Bool.eq_iff_iff, decide_eq_true_eq, decide_eq_true_eq, hP]
    exact ⟨fun h => h.2, fun h => ⟨hS, h⟩⟩
  have s3 := fun (G : GX → GV → GV → GV → GV → GV → Heap → Option R) => (s2 G).trans (if_pos (e3.2 c3))
  rw [e4]
  simp only [S.spec_ChainOk.l7]
  simp [g2, g6, w1, get_of j0, get_app, get_app0, set_app, set_app0, c1', s1, s3]
  have w3 : IntKind.i64.wrap (j : Int) = (j : Int) := by rw [wrap_id] <;> omega
  simp [w3]
open Classical in
theorem spec_ChainOk_spec (xs : CServers) (ds : List (List ByteArray)) (us : List (List Int)) (hm : okChain (xs, ds, us)) :
    NN fn.spec_ChainOk [.agg [fzl true 2 (mServer true) xs, fzl true 1 (mStringS true) ds, fzl true 1 (mInt64S true) us]] = some (.bool (decide (ChainP xs ds us))) := by
  obtain ⟨k, hk⟩ : ∃ k, 1048576 < k + 1 := ⟨1048577, by omega⟩
  have hm' := hm
  obtain ⟨⟨hx, hx'⟩, ⟨hd, hd'⟩, ⟨hu, hu'⟩⟩ := hm'
  simp only at hx hx' hd hd' hu hu'
  apply S.spec_ChainOk.gives (k := k + 1)
  have w1 : IntKind.i64.wrap ((xs.length : Int) - 1) = (xs.length : Int) - 1 := by rw [wrap_id] <;> omega
  by_cases h1 : 1 ≤ xs.length
  case neg =>
    rw [decide_eq_false (fun h => h1 h.1.1)]
    have c1 : (xs.length : Int) < 1 := by omega
    simp [S.spec_ChainOk.run, c1, w1]
  have c1 : ¬ ((xs.length : Int) < 1) := by omega
  by_cases h1' : xs.length ≤ 5
  case neg =>
    rw [decide_eq_false (fun h => h1' h.1.2)]
    have c2 : (5 : Int) < (xs.length : Int) := by omega
    simp [S.spec_ChainOk.run, c1, c2, w1]
  have c2 : ¬ ((5 : Int) < (xs.length : Int)) := by omega
  by_cases h2 : ds.length + 1 = xs.length
  case neg =>
    rw [decide_eq_false (fun h => h2 h.2.1)]
    have : ¬ ((ds.length : Int) = (xs.length : Int) - 1) := by omega
    simp [S.spec_ChainOk.run, c1, c2, w1, this]
  have h2' : (ds.length : Int) = (xs.length : Int) - 1 := by omega
  by_cases h3 : us.length + 1 = xs.length
  case neg =>
    rw [decide_eq_false (fun h => h3 h.2.2.1)]
    have : ¬ ((us.length : Int) = (xs.length : Int) - 1) := by omega
    simp [S.spec_ChainOk.run, c1, c2, w1, h2', this]
  have h3' : (us.length : Int) = (xs.length : Int) - 1 := by omega
  simp [S.spec_ChainOk.run, c1, c2, w1, h2', h3']
  refine (loop_allS (f := fun r j (t : Heap) => S.spec_ChainOk.l7 _ _ (r + 1) (.ptr 0 0 3) (.bool false) (.int .i64 (xs.length : Int)) (.int .i64 (j : Int)) (ChainCells xs ds us :: t)) (A := some (GV.bool (decide (RoundP xs ds us (xs.length - 1))))) (B := some (GV.bool false)) (n := xs.length - 1) (P := fun j => RoundP xs ds us j) (fun j r t hj => ?_) (fun r t => ?_) k 0 [] (by omega) (by omega)).trans ?_
  · have hs := spec_ChainOk_step xs ds us hm ⟨h1, h1'⟩ h2 h3 j (r + 1) t hj
    by_cases hp : RoundP xs ds us j
    · rw [if_pos hp] at hs ⊢
      obtain ⟨t', hs⟩ := hs
      exact ⟨t', hs _ hk _⟩
    · rw [if_neg hp] at hs ⊢
      obtain ⟨t', hs⟩ := hs
      rw [hs _ hk]
      simp
  · obtain ⟨t', hs⟩ := spec_ChainOk_last xs ds us hm ⟨h1, h1'⟩ (r + 1) t
    rw [hs _ hk]
    simp
  · have key : ChainP xs ds us ↔ (∀ i, 0 ≤ i → i < xs.length - 1 → RoundP xs ds us i) ∧ RoundP xs ds us (xs.length - 1) := by
      unfold ChainP
      constructor
      · intro h
        have hs : ∀ i, i < xs.length → ServerP (xs[i]?.getD ([], 0)).1 (xs[i]?.getD ([], 0)).2 := fun i hi => by
          rw [get_of hi]
          exact h.2.2.2.1 _ (List.getElem_mem hi)
        exact ⟨fun i h0 hi => ⟨hs i (by omega), fun _ => h.2.2.2.2.1 i h0 hi, fun h' => absurd h' (by omega)⟩, ⟨hs _ (by omega), fun h' => absurd h' (by omega), fun _ => h.2.2.2.2.2⟩⟩
      · intro h
        refine ⟨⟨h1, h1'⟩, h2, h3, fun s hs => ?_, fun i h0 hi => (h.1 i h0 hi).2.1 hi, h.2.2.2 rfl⟩
        obtain ⟨i, hi, rfl⟩ := List.getElem_of_mem hs
        have : ServerP (xs[i]?.getD ([], 0)).1 (xs[i]?.getD ([], 0)).2 := by
          rcases Nat.lt_or_ge i (xs.length - 1) with h' | h'
          · exact (h.1 i (by omega) h').1
          · have : i = xs.length - 1 := by omega
            subst this
            exact h.2.1
        rwa [get_of hi] at this
    by_cases hs : ∀ i, 0 ≤ i → i < xs.length - 1 → RoundP xs ds us i
    · rw [if_pos hs]
      congr 2
      rw [Bool.eq_iff_iff, decide_eq_true_eq, decide_eq_true_eq, key]
      exact ⟨fun h => ⟨hs, h⟩, fun h => h.2⟩
    · rw [if_neg hs, decide_eq_false (fun h => hs (key.1 h).1)]
end Go.Proofs.Ytopmnigfklgnkaa.G
