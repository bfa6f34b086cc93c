/- strings.Split at a blank; digits in pairs. -/
import Derived.Test.YtklhdbkaejbajaaDoorTRead
import Derived.Test.YtklhdbkaejbajaaDoorTRl
import Derived.Test.YtklhdbkaejbajaaDoorTShow
namespace Go.Proofs.YtklhdbkaejbajaaDoor.G
open Go.RowKit Go.Lib
set_option linter.unusedVariables false
set_option linter.unusedSimpArgs false

theorem kstore_one {B : List GV} {j N : Nat} {x : GV} (hl : B.length = N) (hj : j < N) (hx : x.cells = [x]) (hc : x.isCell = true) : kstore 1 [B] (.ptr 0 j N) x = some [B.set j x] := by
  unfold kstore
  rw [hx]
  simp only [List.length_singleton, List.all_cons, hc, List.all_nil, Bool.and_self, and_self, if_true, cellsAt_if, List.getElem?_cons_zero, hl, Option.bind_some]
  rw [if_pos (by omega)]
  congr 1
  simp only [splice, List.set_cons_zero, List.length_singleton, List.cons.injEq, and_true]
  rw [List.set_eq_take_append_cons_drop, if_pos (by omega)]
  simp
theorem zeros_one (z : GV) : ∀ n, zeros [z] n = List.replicate n z
  | 0 => rfl
  | n + 1 => by rw [zeros, zeros_one z n]; rfl
def wcell (w : List UInt8) : GV := .str (bs w)
def wblk (ws : List (List UInt8)) (j : Nat) : List GV := (ws.take j).map wcell ++ List.replicate (ws.length - j) (.str { data := #[] })
theorem wblk_len (ws : List (List UInt8)) {j : Nat} (h : j ≤ ws.length) : (wblk ws j).length = ws.length := by
  unfold wblk
  rw [List.length_append, List.length_map, List.length_take, List.length_replicate]; omega
theorem wblk_set (ws : List (List UInt8)) {j : Nat} (h : j < ws.length) : (wblk ws j).set j (wcell ws[j]) = wblk ws (j + 1) := by
  unfold wblk
  have e1 : ((ws.take j).map wcell).length = j := by rw [List.length_map, List.length_take]; omega
  rw [List.set_append_right _ _ (by omega), e1, Nat.sub_self, show ws.length - j = (ws.length - (j + 1)) + 1 by omega, List.replicate_succ, List.set_cons_zero,
    List.take_add_one, List.getElem?_eq_getElem h, List.map_append]
  simp
theorem All3_fl' {α : Type} {mk : α → List GV} {h : Heap} : ∀ (l : List α), All3 (RFl mk h) (l.map mk) l (l.map fun _ => [])
  | [] => .nil
  | x :: l => .cons ⟨rfl, rfl⟩ (All3_fl' l)
theorem flat_nils {α : Type} (l : List α) : (l.map fun _ => ([] : List Nat)).flatten = [] := by induction l <;> simp_all
theorem goodStringS' : Good 1 2 (fun a => [fzl true 1 cs a]) (RSl 1 (RFl cs)) := RSl.good (RFl.good (es := 1) (mk := cs) (fun _ => rfl) (fun _ => rfl))
theorem genSplit_spec (s : List UInt8) (hs : s.length ≤ 1048576) (b : Nat) : OO fn.strings_genSplit [.str (bs s), .str { data := #[32] }, .int .i64 0, .int .i64 (-1)] b = finO b (.sl 0 0 (wrd s).length (wrd s).length 1) [(wrd s).map wcell] := by
  obtain ⟨ws, hws⟩ : ∃ ws, wrd s = ws := ⟨_, rfl⟩
  have hl := wrd_len s
  rw [hws] at hl ⊢
  have hcb := countB_wrd s
  rw [hws] at hcb
  have cnt : ∀ H, kN NN fn.strings_Count [.str (bs s), .str { data := #[32] }] H = some (.int .i64 ((ws.length : Int) - 1)) := fun H => kN_at (xs := [.str (bs s), .str (bs [32])]) (by simp) (by
    show rCountS [.str (bs s), .str (bs [32])] = _
    show (if (bs s).size < 4294967281 ∧ 1 ≤ (bs [32]).size then some (GV.int .i64 (countB (bs s) (bs [32]))) else none) = _
    rw [if_pos ⟨by rw [bs_size]; omega, by simp⟩, show ((countB (bs s) (bs [32]) : Nat) : Int) = (ws.length : Int) - 1 by omega])
  have kl := klenS_bs s
  have a1 : kbin .add (.int .i64 ((ws.length : Int) - 1)) (.int .i64 1) = some (.int .i64 (ws.length : Nat)) := by rw [kbin_add, wrap_id (by omega) (by omega), show (ws.length : Int) - 1 + 1 = (ws.length : Nat) by omega]
  have a2 : kbin .add (.int .i64 (s.length : Nat)) (.int .i64 1) = some (.int .i64 ((s.length + 1 : Nat) : Int)) := by rw [kbin_add, wrap_id (by omega) (by omega)]; rfl
  have gm : gmin (.int .i64 (ws.length : Nat)) (.int .i64 ((s.length + 1 : Nat) : Int)) = some (.int .i64 (ws.length : Nat)) := by rw [gmin_int, if_neg (by omega)]
  have s1 : kbin .sub (.int .i64 (ws.length : Nat)) (.int .i64 1) = some (.int .i64 ((ws.length - 1 : Nat) : Int)) := by rw [kbin_sub, wrap_id (by omega) (by omega), show (ws.length : Int) - 1 = ((ws.length - 1 : Nat) : Int) by omega]
  have mk : kmake [.str { data := #[] }] 1 16 (.int .i64 (ws.length : Nat)) (.int .i64 (ws.length : Nat)) [] = some (.sl 0 0 ws.length ws.length 1, [wblk ws 0]) := by
    have e : wblk ws 0 = zeros [.str { data := #[] }] ws.length := by rw [zeros_one]; unfold wblk; simp
    unfold kmake
    simp only [kint, Option.bind_some]
    rw [if_pos ⟨by omega, by omega, by simp only [maxLen]; omega, by simp only [Int.toNat_natCast, roomMax]; omega, rfl⟩, e]
    simp
  have key := loop_inv (T := List UInt8 × Heap) (n := ws.length - 1) (m := ws.length)
    (Inv := fun j x => x.2 = [wblk ws j] ∧ wrd x.1 = ws.drop j ∧ x.1.length ≤ s.length)
    (f := fun r j x => S.strings_genSplit.l11 ws.length (fun x v0 v8 v9 v10 h => kb 0 x fun x => kx x (S.strings_genSplit.n9 ws.length (fun x v8 h => kend x (finO b v8 h)) v0 v8 v9 v10 h) (kend x (finO b v8 h))) r (.str (bs x.1)) (.str { data := #[32] }) (.int .i64 0) (.int .i64 ((ws.length - 1 : Nat) : Int)) .nils (.sl 0 0 ws.length ws.length 1) (.int .i64 (j : Nat)) x.2)
    (A := fun x => S.strings_genSplit.n9 ws.length (fun x v8 h => kend x (finO b v8 h)) (.str (bs x.1)) .nils (.sl 0 0 ws.length ws.length 1) (.int .i64 ((ws.length - 1 : Nat) : Int)) x.2) (s := (s, [wblk ws 0]))
    (by
      rintro j r ⟨t, H⟩ hj ⟨h1, h2, h3⟩
      simp only at h1 h2 h3
      subst h1
      have hmem : (32 : UInt8) ∈ t := Decidable.byContradiction fun hc => by
        rw [wrd_miss t hc] at h2
        have := congrArg List.length h2
        rw [List.length_drop] at this
        simp at this
        omega
      obtain ⟨A, R, rfl, hA⟩ := split_at t hmem
      rw [wrd_hit A R hA, List.drop_eq_getElem_cons (by omega)] at h2
      injection h2 with h4 h5
      have hAl : A.length + 1 + R.length ≤ s.length := by simpa [Nat.add_assoc, Nat.add_comm, Nat.add_left_comm] using h3
      refine ⟨(R, [wblk ws (j + 1)]), ?_, rfl, h5, by simp only; omega⟩
      have lt : kbin .lss (.int .i64 (j : Nat)) (.int .i64 ((ws.length - 1 : Nat) : Int)) = some (.bool true) := by rw [kbin_lss, decide_eq_true (by omega)]
      have ix : ∀ H, kN NN fn.strings_Index [.str (bs (A ++ 32 :: R)), .str { data := #[32] }] H = some (.int .i64 (A.length : Nat)) := fun H => kN_at (xs := [.str (bs (A ++ 32 :: R)), .str (bs [32])]) (by simp) (by
        show rIndexS [.str (bs (A ++ 32 :: R)), .str (bs [32])] = _
        show (if (bs (A ++ 32 :: R)).size < 4294967281 then some (GV.int .i64 (index (A ++ 32 :: R) [32])) else none) = _
        rw [if_pos (by rw [bs_size]; simp; omega), index_hit1 A R hA])
      have c1 : kbin .lss (.int .i64 (A.length : Nat)) (.int .i64 0) = some (.bool false) := by rw [kbin_lss, decide_eq_false (by omega)]
      have b1 : kbin .add (.int .i64 (A.length : Nat)) (.int .i64 0) = some (.int .i64 (A.length : Nat)) := by rw [kbin_add, wrap_id (by omega) (by omega), Int.add_zero]
      have b2 : kbin .add (.int .i64 (A.length : Nat)) (.int .i64 1) = some (.int .i64 ((A.length + 1 : Nat) : Int)) := by rw [kbin_add, wrap_id (by omega) (by omega)]; rfl
      have b3 : kbin .add (.int .i64 (j : Nat)) (.int .i64 1) = some (.int .i64 ((j + 1 : Nat) : Int)) := by rw [kbin_add, wrap_id (by omega) (by omega)]; rfl
      have sl1 : kslS (.str (bs (A ++ 32 :: R))) none (some (.int .i64 (A.length : Nat))) none = some (wcell ws[j]) := by rw [slS_to (by simp), List.take_left, ← h4]; rfl
      have sl2 : kslS (.str (bs (A ++ 32 :: R))) (some (.int .i64 ((A.length + 1 : Nat) : Int))) none none = some (.str (bs R)) := by
        rw [slS_from (by simp)]
        congr 3
        rw [show A ++ 32 :: R = (A ++ [32]) ++ R by simp, List.drop_left' (by simp)]
      have k2 : klenS (.str { data := #[32] }) = some (.int .i64 1) := rfl
      have ki : kia 1 (.sl 0 0 ws.length ws.length 1) (.int .i64 (j : Nat)) = some (.ptr 0 j ws.length) := kia_at (by omega) (by omega) (by omega)
      have st : kstore 1 [wblk ws j] (.ptr 0 j ws.length) (wcell ws[j]) = some [wblk ws (j + 1)] := by rw [kstore_one (wblk_len ws (by omega)) (by omega) rfl rfl, wblk_set ws (by omega)]
      generalize wcell ws[j] = W at *
      generalize wblk ws (j + 1) = B' at *
      generalize wblk ws j = B at *
      generalize GV.str (bs (A ++ 32 :: R)) = D at *
      generalize GV.str (bs R) = D' at *
      generalize GV.str { data := #[32] } = Sp at *
      generalize GV.int .i64 ((j + 1 : Nat) : Int) = J' at *
      generalize GV.int .i64 ((ws.length - 1 : Nat) : Int) = N1 at *
      generalize GV.int .i64 (j : Nat) = J at *
      generalize GV.int .i64 ((A.length + 1 : Nat) : Int) = A1 at *
      generalize GV.int .i64 (A.length : Nat) = A0 at *
      generalize GV.ptr 0 j ws.length = P0 at *
      generalize GV.sl 0 0 ws.length ws.length 1 = V at *
      simp [S.strings_genSplit.l11, lt, ix, c1, b1, b2, b3, sl1, sl2, k2, ki, st, -kN_eq])
    (by
      rintro r ⟨t, H⟩ ⟨h1, h2, h3⟩
      have lt : kbin .lss (.int .i64 ((ws.length - 1 : Nat) : Int)) (.int .i64 ((ws.length - 1 : Nat) : Int)) = some (.bool false) := by rw [kbin_lss, decide_eq_false (by omega)]
      simp only
      generalize GV.int .i64 ((ws.length - 1 : Nat) : Int) = N1 at *
      generalize GV.sl 0 0 ws.length ws.length 1 = V at *
      simp only [S.strings_genSplit.l11, S.strings_genSplit.n12, lt, Option.bind_some, kcond_bool, cond_false, kx_ext, kb_ext, kx_nrm, kb_nrm]
      simp)
    ⟨rfl, by rw [List.drop_zero]; exact hws, Nat.le_refl _⟩ (by omega)
  obtain ⟨⟨t, H⟩, e1, rfl, e3, e4⟩ := key
  simp only at e1 e3
  have hno : (32 : UInt8) ∉ t := fun hc => by
    obtain ⟨A, R, rfl, hA⟩ := split_at t hc
    rw [wrd_hit A R hA] at e3
    have := congrArg List.length e3
    rw [List.length_drop] at this
    have := (wrd_len R).1
    simp at *
    omega
  rw [wrd_miss t hno, List.drop_eq_getElem_cons (by omega)] at e3
  injection e3 with e3 _
  have ki : kia 1 (.sl 0 0 ws.length ws.length 1) (.int .i64 ((ws.length - 1 : Nat) : Int)) = some (.ptr 0 (ws.length - 1) ws.length) := kia_at (by omega) (by omega) (by omega)
  have st : kstore 1 [wblk ws (ws.length - 1)] (.ptr 0 (ws.length - 1) ws.length) (.str (bs t)) = some [ws.map wcell] := by
    rw [show GV.str (bs t) = wcell (ws[ws.length - 1]'(by omega)) by rw [e3]; rfl, kstore_one (wblk_len ws (by omega)) (by omega) rfl rfl, wblk_set ws (by omega), show ws.length - 1 + 1 = ws.length by omega]
    unfold wblk
    simp
  have b3 : kbin .add (.int .i64 ((ws.length - 1 : Nat) : Int)) (.int .i64 1) = some (.int .i64 (ws.length : Nat)) := by rw [kbin_add, wrap_id (by omega) (by omega), show ((ws.length - 1 : Nat) : Int) + 1 = (ws.length : Nat) by omega]
  have sl : ksl 1 (.sl 0 0 ws.length ws.length 1) none (some (.int .i64 (ws.length : Nat))) none = some (.sl 0 0 ws.length ws.length 1) := by
    simp [ksl, kslice, gslice, gopt, gint]
  obtain ⟨q, hq⟩ : ∃ q, finO b (.sl 0 0 ws.length ws.length 1) [ws.map wcell] = q := ⟨_, rfl⟩
  have fin1 : S.strings_genSplit.n9 ws.length (fun x v8 h => kend x (finO b v8 h)) (.str (bs t)) .nils (.sl 0 0 ws.length ws.length 1) (.int .i64 ((ws.length - 1 : Nat) : Int)) [wblk ws (ws.length - 1)] = q := by
    rw [← hq]
    generalize ws.map wcell = WW at *
    generalize wblk ws (ws.length - 1) = B at *
    generalize GV.str (bs t) = D at *
    generalize GV.int .i64 ((ws.length - 1 : Nat) : Int) = N1 at *
    generalize GV.int .i64 (ws.length : Nat) = N0 at *
    generalize GV.ptr 0 (ws.length - 1) ws.length = P0 at *
    generalize GV.sl 0 0 ws.length ws.length 1 = V at *
    simp [S.strings_genSplit.n9, ki, st, b3, sl]
  have e1' := e1.trans fin1
  have mkl : (wblk ws 0) = wblk ws 0 := rfl
  have qe : ∃ r, q = some r := by
    obtain ⟨v', bl, f1, _⟩ := goodStringS'.fin (by omega) (h := [ws.map wcell]) (v := .sl 0 0 ws.length ws.length 1) (x := ws.map bs) (R := [0]) (.inr ⟨0, (ws.map bs).map cs, (ws.map bs).map fun _ => [], by rw [List.length_map], by rw [← List.flatMap_def]; simp [cs, List.flatMap_map]; rw [List.map_eq_flatMap]; rfl, All3_fl' _, by simp [flat_nils]⟩) (by simp) b
    exact ⟨_, hq.symm.trans f1⟩
  obtain ⟨r, rfl⟩ := qe
  rw [hq]
  apply S.strings_genSplit.gives (k := ws.length)
  have ne0 : kbin .eql (.int .i64 (-1)) (.int .i64 0) = some (.bool false) := by rw [kbin_eql]; rfl
  have ne1 : kbin .eql (.str { data := #[32] }) (.str { data := #[] }) = some (.bool false) := by
    rw [show ({ data := #[32] } : ByteArray) = bs [32] from rfl, show ({ data := #[] } : ByteArray) = bs [] from rfl, eq_str]; rfl
  have lt1 : kbin .lss (.int .i64 (-1)) (.int .i64 0) = some (.bool true) := by rw [kbin_lss]; rfl
  generalize ws.map wcell = WW at *
  generalize wblk ws 0 = B at *
  generalize GV.str (bs s) = D at *
  generalize GV.str { data := #[32] } = Sp at *
  generalize GV.int .i64 ((ws.length - 1 : Nat) : Int) = N1 at *
  generalize GV.int .i64 ((ws.length : Int) - 1) = M1 at *
  generalize GV.int .i64 (ws.length : Nat) = N0 at *
  generalize GV.int .i64 (s.length : Nat) = L0 at *
  generalize GV.int .i64 ((s.length + 1 : Nat) : Int) = L1 at *
  generalize GV.sl 0 0 ws.length ws.length 1 = V at *
  generalize GV.int .i64 (-1) = Mi at *
  simp only [S.strings_genSplit.run, S.strings_genSplit.n0, S.strings_genSplit.n1, S.strings_genSplit.n2, S.strings_genSplit.n3, S.strings_genSplit.n4, S.strings_genSplit.n5, S.strings_genSplit.n6, S.strings_genSplit.n7, S.strings_genSplit.n8, S.strings_genSplit.n10, S.strings_genSplit.n11,
    ne0, ne1, lt1, cnt, kl, a1, a2, gm, s1, mk, Option.bind_some, kcond_bool, cond_true, cond_false, kr_mk]
  exact e1'

theorem rsl_bufG {α : Type} {mk : α → List GV} {v : GV} {l : List α} {h : Heap} {R : List Nat} (hr : RSl 1 (RFl mk) h [v] l R) (hl : l ≠ []) : BufG mk v l h := by
  rcases hr with ⟨h1, _, _⟩ | ⟨b, css, Rs, h1, h2, h3, _⟩
  · exact absurd h1 hl
  · refine .inr ⟨b, by injection h1, ?_⟩
    rw [h2]
    have : ∀ {css : List (List GV)} {l : List α} {Rs : List (List Nat)}, All3 (RFl mk h) css l Rs → css = l.map mk := fun h3 => by
      induction h3 with
      | nil => rfl
      | cons h _ ih => rw [ih, h.1]; rfl
    rw [this h3, List.flatMap_def]
theorem Split_spec (s : List UInt8) (hs : s.length ≤ 1048576) (H : Heap) : ∃ v H', kF false HH fn.strings_Split [.str (bs s), .str { data := #[32] }] H = some (v, H') ∧ BufG cs v ((wrd s).map bs) H' ∧ Fr [] H H' := by
  have hne : (wrd s).map bs ≠ [] := fun e => by
    have := (wrd_len s).1
    have := congrArg List.length e
    simp at this
    simp [this] at *
  have g1 : ∀ b, ∃ v' bl, finO b (.sl 0 0 (wrd s).length (wrd s).length 1) [(wrd s).map wcell] = some (v', bl) ∧ ∀ H T, H.length = b → RSl 1 (RFl cs) (H ++ bl ++ T) [v'] ((wrd s).map bs) (List.range' b bl.length) := fun b =>
    goodStringS'.fin (by omega) (h := [(wrd s).map wcell]) (v := .sl 0 0 (wrd s).length (wrd s).length 1) (x := (wrd s).map bs) (R := [0]) (.inr ⟨0, ((wrd s).map bs).map cs, ((wrd s).map bs).map fun _ => [], by rw [List.length_map], by rw [← List.flatMap_def]; simp [cs, List.flatMap_map]; rw [List.map_eq_flatMap]; rfl, All3_fl' _, by simp [flat_nils]⟩) (by simp) b
  have g2 : ∀ b, ∃ v' bl, OO fn.strings_Split [.str (bs s), .str { data := #[32] }] b = some (v', bl) ∧ ∀ H T, H.length = b → RSl 1 (RFl cs) (H ++ bl ++ T) [v'] ((wrd s).map bs) (List.range' b bl.length) := fun b => by
    obtain ⟨v1, R1, H1, a1, a2, a3, _⟩ := fresh_one goodStringS' (f := fn.strings_genSplit) (args := [.str (bs s), .str { data := #[32] }, .int .i64 0, .int .i64 (-1)]) (H := []) (x := (wrd s).map bs) (by simp <;> rfl) (by
      obtain ⟨v', bl, f1, f2⟩ := g1 0
      exact ⟨v', bl, by rw [List.length_nil, genSplit_spec s hs 0]; exact f1, f2⟩)
    obtain ⟨v2, bl, b1, b2⟩ := goodStringS'.fin (by omega) a2 a3 b
    refine ⟨v2, bl, S.strings_Split.gives (k := 0) ?_, b2⟩
    generalize GV.str (bs s) = D at *
    generalize GV.str { data := #[32] } = Sp at *
    simp [S.strings_Split.run, a1, b1, -kF_OO]
  obtain ⟨v1, R1, H1, a1, a2, a3, a4, a5, a6⟩ := fresh_one goodStringS' (f := fn.strings_Split) (args := [.str (bs s), .str { data := #[32] }]) (H := H) (x := (wrd s).map bs) (by simp <;> rfl) (g2 H.length)
  exact ⟨v1, H1, a1, rsl_bufG a2 hne, a5⟩

/-! Digits in pairs. -/
def unh (g : UInt8 → Int) : List UInt8 → List UInt8
  | a :: b :: l => UInt8.ofNat (16 * g a + g b).toNat :: unh g l
  | _ => []
theorem unh_len (g : UInt8 → Int) : ∀ (l : List UInt8), (unh g l).length = l.length / 2
  | [] => by simp [unh]
  | [_] => by simp [unh]
  | a :: b :: l => by simp only [unh, List.length_cons, unh_len g l]; omega
theorem unh_get (g : UInt8 → Int) : ∀ (l : List UInt8) (j : Nat) (h : j < (unh g l).length), ∃ (h1 : 2 * j < l.length) (h2 : 2 * j + 1 < l.length), (unh g l)[j] = UInt8.ofNat (16 * g l[2 * j] + g l[2 * j + 1]).toNat
  | [], j, h => by simp [unh] at h
  | [_], j, h => by simp [unh] at h
  | a :: b :: l, 0, h => ⟨by simp, by simp, rfl⟩
  | a :: b :: l, j + 1, h => by
    obtain ⟨h1, h2, e⟩ := unh_get g l j (by simpa [unh] using h)
    refine ⟨by simp; omega, by simp; omega, ?_⟩
    simp only [unh, List.getElem_cons_succ, e]
    simp only [show 2 * (j + 1) = (2 * j) + 1 + 1 by omega, show (2 * j) + 1 + 1 + 1 = ((2 * j) + 1) + 1 + 1 by omega, List.getElem_cons_succ]
theorem unh_hex {g : UInt8 → Int} (hg : ∀ n, n < 16 → g (hexD n) = n) : ∀ (l : List UInt8), unh g (hexM l) = l
  | [] => by simp [unh, hexM]
  | x :: l => by
    have hx := x.toNat_lt
    have e : hexM (x :: l) = hexD (x.toNat / 16) :: hexD (x.toNat % 16) :: hexM l := rfl
    rw [e, unh, unh_hex hg l, hg _ (by omega), hg _ (by omega)]
    congr 1
    apply UInt8.toNat_inj.1
    rw [UInt8.toNat_ofNat']
    omega

def gI (b : UInt8) : Int := max 0 (indexByte hexT b)
def gS (b : UInt8) : Int := if 48 ≤ b.toNat ∧ b.toNat ≤ 57 then (b.toNat : Int) - 48 else if 97 ≤ b.toNat ∧ b.toNat ≤ 102 then (b.toNat : Int) - 97 + 10 else 16
theorem gI_b (b : UInt8) : 0 ≤ gI b ∧ gI b ≤ 16 := by
  have : ∀ n : Fin 256, 0 ≤ gI (UInt8.ofNat n.1) ∧ gI (UInt8.ofNat n.1) ≤ 16 := by decide +kernel
  have h := this ⟨b.toNat, b.toNat_lt⟩
  simpa using h
theorem gS_b (b : UInt8) : 0 ≤ gS b ∧ gS b ≤ 16 := by unfold gS; split <;> (try split) <;> omega
theorem gI_hex : ∀ n, n < 16 → gI (hexD n) = n := by decide +kernel
theorem gS_hex : ∀ n, n < 16 → gS (hexD n) = n := by decide +kernel
theorem wrapm {n : Int} (h : 0 ≤ n) : IntKind.u8.wrap n = ((UInt8.ofNat n.toNat).toNat : Int) := by
  simp [IntKind.wrap, IntKind.bits, IntKind.signed]
  omega
theorem idx_spec (b : UInt8) : NN fn.strings_IndexByte [.str { data := #[48, 49, 50, 51, 52, 53, 54, 55, 56, 57, 97, 98, 99, 100, 101, 102] }, .int .u8 (b.toNat : Int)] = some (.int .i64 (indexByte hexT b)) := by
  show rIndexByte [.str (bs hexT), .int .u8 (b.toNat : Int)] = _
  show some (GV.int .i64 (indexByte hexT (b.toNat : Int).toNat.toUInt8)) = _
  simp
theorem digit_spec (b : UInt8) : NN fn.spec_l18Digit [.int .u8 (b.toNat : Int)] = some (.int .i64 (gS b)) := by
  apply S.spec_l18Digit.gives (k := 0)
  have hb := b.toNat_lt
  obtain ⟨x, hx⟩ : ∃ x : Int, x = (b.toNat : Int) := ⟨_, rfl⟩
  have e : gS b = if 48 ≤ x ∧ x ≤ 57 then x - 48 else if 97 ≤ x ∧ x ≤ 102 then x - 97 + 10 else 16 := by
    unfold gS
    have h1 : (48 ≤ b.toNat ∧ b.toNat ≤ 57) ↔ (48 ≤ x ∧ x ≤ 57) := by omega
    have h2 : (97 ≤ b.toNat ∧ b.toNat ≤ 102) ↔ (97 ≤ x ∧ x ≤ 102) := by omega
    simp only [h1, h2, hx]
  rw [e, ← hx]
  have hx0 : 0 ≤ x ∧ x ≤ 255 := by omega
  by_cases c1 : 48 ≤ x
  · by_cases c2 : x ≤ 57
    · have w1 : IntKind.u8.wrap (x - 48) = x - 48 := wrap8 (by omega) (by omega)
      have w2 : IntKind.i64.wrap (x - 48) = x - 48 := wrap_id (by omega) (by omega)
      rw [if_pos ⟨c1, c2⟩]
      simp [S.spec_l18Digit.run, c1, c2, w1, w2]
    · rw [if_neg (by omega)]
      by_cases c3 : 97 ≤ x
      · by_cases c4 : x ≤ 102
        · have w1 : IntKind.u8.wrap (x - 97) = x - 97 := wrap8 (by omega) (by omega)
          have w2 : IntKind.i64.wrap (x - 97) = x - 97 := wrap_id (by omega) (by omega)
          have w3 : IntKind.i64.wrap (x - 97 + 10) = x - 97 + 10 := wrap_id (by omega) (by omega)
          rw [if_pos ⟨c3, c4⟩]
          simp [S.spec_l18Digit.run, c1, c2, c3, c4, w1, w2, w3]
        · rw [if_neg (by omega)]
          simp [S.spec_l18Digit.run, c1, c2, c3, c4]
      · rw [if_neg (by omega)]
        simp [S.spec_l18Digit.run, c1, c2, c3]
  · rw [if_neg (by omega), if_neg (by omega)]
    have c3 : ¬ 97 ≤ x := by omega
    simp [S.spec_l18Digit.run, c1, c3]
theorem impl_unhex_spec (w : List UInt8) (hw : w.length ≤ 1048576) : NN fn.impl_unhex [.str (bs w)] = some (.str (bs (unh gI w))) := by
  apply S.impl_unhex.gives (k := w.length + 1)
  have kl := klenS_bs w
  have hul := unh_len gI w
  have key := loop_inv (T := GV × Heap) (n := (unh gI w).length) (m := w.length + 1) (Inv := fun j x => Buf x.1 ((unh gI w).take j) x.2)
    (f := fun r j x => S.impl_unhex.l6 (w.length + 1) (fun x v2 v3 h => kb 0 x fun x => kx x (S.impl_unhex.n3 (w.length + 1) (fun x v2 h => kend x (finN v2 h)) v3 h) (kend x (finN v2 h))) r (.str (bs w)) (.str { data := #[] }) x.1 (.int .i64 ((2 * j : Nat) : Int)) x.2)
    (A := fun x => S.impl_unhex.n3 (w.length + 1) (fun x v2 h => kend x (finN v2 h)) x.1 x.2) (s := (.emp, []))
    (by
      rintro j r ⟨v, H⟩ hj hb
      simp only at hb
      obtain ⟨h1, h2, e⟩ := unh_get gI w j hj
      have b1 := gI_b w[2 * j]
      have b2 := gI_b w[2 * j + 1]
      obtain ⟨c, hc⟩ : ∃ c, UInt8.ofNat (16 * gI w[2 * j] + gI w[2 * j + 1]).toNat = c := ⟨_, rfl⟩
      obtain ⟨v', H', a1, a2⟩ := hb.app (m := [c]) (by simp) (by rw [List.length_take]; simp; omega)
      have a1' : kapp [.int .u8 0] 1 1 v (.sl H.length 0 1 1 1) (H ++ [[GV.int .u8 (c.toNat : Int)]]) = some (v', H') := a1
      have gf := gfill_one' (v := .int .u8 (c.toNat : Int)) (z := [.int .u8 0]) rfl rfl
      refine ⟨(v', H'), ?_, ?_⟩
      · have k1 := kbyte_nat (k := .i64) (l := w) h1
        have k2 := kbyte_nat (k := .i64) (l := w) h2
        have d1 : ∀ H, kN NN fn.strings_IndexByte [.str { data := #[48, 49, 50, 51, 52, 53, 54, 55, 56, 57, 97, 98, 99, 100, 101, 102] }, .int .u8 (w[2 * j].toNat : Int)] H = _ := fun H => kN_at (by simp) (idx_spec w[2 * j])
        have d2 : ∀ H, kN NN fn.strings_IndexByte [.str { data := #[48, 49, 50, 51, 52, 53, 54, 55, 56, 57, 97, 98, 99, 100, 101, 102] }, .int .u8 (w[2 * j + 1].toNat : Int)] H = _ := fun H => kN_at (by simp) (idx_spec w[2 * j + 1])
        have m1 : gmax (.int .i64 0) (.int .i64 (indexByte hexT w[2 * j])) = some (.int .i64 (gI w[2 * j])) := gmax_max 0 _
        have m2 : gmax (.int .i64 0) (.int .i64 (indexByte hexT w[2 * j + 1])) = some (.int .i64 (gI w[2 * j + 1])) := gmax_max 0 _
        have p1 : kbin .add (.int .i64 ((2 * j : Nat) : Int)) (.int .i64 1) = some (.int .i64 ((2 * j + 1 : Nat) : Int)) := by rw [kbin_add, wrap_id (by omega) (by omega)]; rfl
        have p2 : kbin .add (.int .i64 ((2 * j : Nat) : Int)) (.int .i64 2) = some (.int .i64 ((2 * (j + 1) : Nat) : Int)) := by rw [kbin_add, wrap_id (by omega) (by omega)]; congr 2
        have p3 : kbin .lss (.int .i64 ((2 * j + 1 : Nat) : Int)) (.int .i64 (w.length : Nat)) = some (.bool true) := by rw [kbin_lss, decide_eq_true (by omega)]
        have q1 : kbin .mul (.int .i64 (gI w[2 * j])) (.int .i64 16) = some (.int .i64 (16 * gI w[2 * j])) := by rw [kbin_mul, wrap_id (by omega) (by omega), Int.mul_comm]
        have q2 : kbin .add (.int .i64 (16 * gI w[2 * j])) (.int .i64 (gI w[2 * j + 1])) = some (.int .i64 (16 * gI w[2 * j] + gI w[2 * j + 1])) := by rw [kbin_add, wrap_id (by omega) (by omega)]
        have q3 : kconvI .u8 (.int .i64 (16 * gI w[2 * j] + gI w[2 * j + 1])) = some (.int .u8 (c.toNat : Int)) := by rw [kconvI_int, wrapm (by omega), hc]
        generalize GV.int .u8 (c.toNat : Int) = C at *
        generalize GV.int .i64 (16 * gI w[2 * j] + gI w[2 * j + 1]) = X3 at *
        generalize GV.int .i64 (16 * gI w[2 * j]) = X2 at *
        generalize GV.int .i64 (gI w[2 * j]) = X1 at *
        generalize GV.int .i64 (gI w[2 * j + 1]) = X4 at *
        generalize GV.int .i64 (indexByte hexT w[2 * j]) = Y1 at *
        generalize GV.int .i64 (indexByte hexT w[2 * j + 1]) = Y2 at *
        generalize GV.int .u8 (w[2 * j].toNat : Int) = Z1 at *
        generalize GV.int .u8 (w[2 * j + 1].toNat : Int) = Z2 at *
        generalize GV.str (bs w) = D at *
        generalize GV.int .i64 ((2 * (j + 1) : Nat) : Int) = J2 at *
        generalize GV.int .i64 ((2 * j + 1 : Nat) : Int) = J1 at *
        generalize GV.int .i64 ((2 * j : Nat) : Int) = J at *
        generalize GV.int .i64 (w.length : Nat) = N0 at *
        simp [S.impl_unhex.l6, kl, k1, k2, d1, d2, m1, m2, p1, p2, p3, q1, q2, q3, gf, kbs_eq, a1', -kN_eq]
      · show Buf v' ((unh gI w).take (j + 1)) H'
        rw [List.take_add_one, List.getElem?_eq_getElem hj, e, hc]
        exact a2)
    (by
      rintro r ⟨v, H⟩ hb
      have p1 : kbin .add (.int .i64 ((2 * (unh gI w).length : Nat) : Int)) (.int .i64 1) = some (.int .i64 ((2 * (unh gI w).length + 1 : Nat) : Int)) := by rw [kbin_add, wrap_id (by omega) (by omega)]; rfl
      have p3 : kbin .lss (.int .i64 ((2 * (unh gI w).length + 1 : Nat) : Int)) (.int .i64 (w.length : Nat)) = some (.bool false) := by rw [kbin_lss, decide_eq_false (by omega)]
      simp only
      generalize GV.str (bs w) = D at *
      generalize GV.int .i64 ((2 * (unh gI w).length + 1 : Nat) : Int) = J1 at *
      generalize GV.int .i64 ((2 * (unh gI w).length : Nat) : Int) = J at *
      generalize GV.int .i64 (w.length : Nat) = N0 at *
      simp [S.impl_unhex.l6, kl, p1, p3])
    (by simpa using Buf.nil) (by omega)
  obtain ⟨⟨v, H⟩, e1, e2⟩ := key
  rw [List.take_length] at e2
  refine e1.trans ?_
  simp [e2.str, finN_bs]
end Go.Proofs.YtklhdbkaejbajaaDoor.G
