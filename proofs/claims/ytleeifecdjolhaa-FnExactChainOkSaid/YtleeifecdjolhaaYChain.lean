/- Written by tgen.py: types and what the functions of the laws that go over them answer. -/
import Derived.Test.YtleeifecdjolhaaT4
import Derived.Test.YtleeifecdjolhaaSA
namespace Go.Proofs.Ytleeifecdjolhaa.G
open Go.RowKit
set_option linter.unusedVariables false
set_option linter.unusedSimpArgs false

/-! StringS -/
abbrev mStringS (t : Bool) (a : List (ByteArray)) : List GV := [fzl t 1 cs a]
def zStringS (a : List (ByteArray)) : Nat := a.length + (a.map fun x => x.size).sum
def okStringS (a : List (ByteArray)) : Prop := a.length ≤ 1048576 ∧ ∀ x ∈ a, x.size ≤ 1048576
theorem okStringS_of {a : List (ByteArray)} (h : zStringS a ≤ 1048576) : okStringS a := by
  unfold zStringS at h
  refine ⟨by omega, fun x hx => ?_⟩
  have : x.size ≤ _ := sum_mem (c := fun x => x.size) hx
  omega
@[simp] theorem kload1_StringS {h : Heap} {t : Bool} {xs : List (List (ByteArray))} {j : Nat} : kload1 h (elp t (mStringS t) xs j) = xs[j]?.map fun a => fzl t 1 cs a := kload1_elp _ (fun _ => rfl)
@[simp] theorem kia_StringS {t : Bool} {xs : List (List (ByteArray))} {k : IntKind} {i : Int} : kia 1 (fzl t 1 (mStringS t) xs) (.int k i) = if 0 ≤ i ∧ i < xs.length then some (elp t (mStringS t) xs i.toNat) else none := kia_fzl (es := 1) (fun _ => rfl)
theorem ld_StringS {d : Nat} {t : Bool} (a : List (ByteArray)) : (mStringS t a).map (lend (d + 1)) = mStringS true a := map_cons' (lend_fzl (d := d) (mk := cs) (mk' := cs) (fun a => map_cons' lend_str rfl) a) (rfl)
@[simp] theorem bor_StringS {d : Nat} {h : Heap} {t : Bool} {xs : List (List (ByteArray))} : bor (d + 3) h (fzl t 1 (mStringS t) xs) = some (fzl true 1 (mStringS true) xs, []) := bor_fzl (d := d + 2) (fun a => ld_StringS (d := d + 1) a) xs
theorem laws_szStringS_spec (xs : List (ByteArray)) (left : Int) (hi : inSl (fun x1 : ByteArray => x1.size ≤ maxLen) xs) (hl : 0 ≤ left) (hl' : left ≤ 1048576) : NN fn.laws_szStringS [fzl true 1 cs xs, .int .i64 left] = some (.int .i64 (if left < (zStringS xs : Int) then -1 else left - zStringS xs)) := by
  apply S.laws_szStringS.gives (k := xs.length + 1)
  have w := wrap_sub hl hl' hi.1
  simp [S.laws_szStringS.run, w]
  by_cases h : left < xs.length
  · have h1 : left - xs.length < 0 := by omega
    have h2 : left < (zStringS xs : Int) := by unfold zStringS; omega
    simp [h, h1, h2]
  · have h1 : ¬ (left - xs.length < 0) := by omega
    simp [h, h1]
    refine (loop_sz (xs := xs) (c := fun x => x.size) (f := fun r j l => S.laws_szStringS.l7 _ _ r _ (.int .i64 l) _ (.int .i64 (j : Int)) _) (A := fun l => some (GV.int .i64 l)) (B := some (GV.int .i64 (-1))) (fun j r l hj h0 h0' => ?_) (fun r l => ?_) (xs.length + 1) 0 _ (by omega) (by omega) (by omega) (by omega)).trans ?_
    · have g1 : (j : Int) < xs.length := by omega
      have ws := wrap_succ (n := j) (by have := hi.1; omega)
      have w2 := wrap_sub h0 h0' (hi.2 _ (List.getElem_mem hj))
      by_cases hc : l < ((xs[j].size : Nat) : Int)
      · have hc' : l - ((xs[j].size : Nat) : Int) < 0 := by omega
        simp [S.laws_szStringS.l7, g1, get_of hj, ws, w2, hc, hc']
      · have hc' : ¬ (l - ((xs[j].size : Nat) : Int) < 0) := by omega
        simp [S.laws_szStringS.l7, g1, get_of hj, ws, w2, hc, hc']
    · simp [S.laws_szStringS.l7]
    · simp only [List.drop_zero]
      have e : ((zStringS xs : Nat) : Int) = (xs.length : Int) + ((xs.map fun x => x.size).sum : Nat) := by unfold zStringS; omega
      by_cases hc : left < (zStringS xs : Int)
      · rw [if_pos hc, if_pos (by omega)]
      · rw [if_neg hc, if_neg (by omega)]
        congr 2; omega

/-! Int64S -/
abbrev mInt64S (t : Bool) (a : List (Int)) : List GV := [fzl t 1 ci a]
abbrev zInt64S (a : List (Int)) : Nat := a.length
abbrev okInt64S (a : List (Int)) : Prop := a.length ≤ 1048576
theorem okInt64S_of {a : List (Int)} (h : zInt64S a ≤ 1048576) : okInt64S a := h
@[simp] theorem kload1_Int64S {h : Heap} {t : Bool} {xs : List (List (Int))} {j : Nat} : kload1 h (elp t (mInt64S t) xs j) = xs[j]?.map fun a => fzl t 1 ci a := kload1_elp _ (fun _ => rfl)
@[simp] theorem kia_Int64S {t : Bool} {xs : List (List (Int))} {k : IntKind} {i : Int} : kia 1 (fzl t 1 (mInt64S t) xs) (.int k i) = if 0 ≤ i ∧ i < xs.length then some (elp t (mInt64S t) xs i.toNat) else none := kia_fzl (es := 1) (fun _ => rfl)
theorem ld_Int64S {d : Nat} {t : Bool} (a : List (Int)) : (mInt64S t a).map (lend (d + 1)) = mInt64S true a := map_cons' (lend_fzl (d := d) (mk := ci) (mk' := ci) (fun a => map_cons' lend_int rfl) a) (rfl)
@[simp] theorem bor_Int64S {d : Nat} {h : Heap} {t : Bool} {xs : List (List (Int))} : bor (d + 3) h (fzl t 1 (mInt64S t) xs) = some (fzl true 1 (mInt64S true) xs, []) := bor_fzl (d := d + 2) (fun a => ld_Int64S (d := d + 1) a) xs
theorem laws_szInt64S_spec (xs : List (Int)) (left : Int) (hm : xs.length ≤ maxLen) (hl : 0 ≤ left) (hl' : left ≤ 1048576) : NN fn.laws_szInt64S [fzl true 1 ci xs, .int .i64 left] = some (.int .i64 (if left < (zInt64S xs : Int) then -1 else left - zInt64S xs)) := by
  apply S.laws_szInt64S.gives (k := 0)
  have w := wrap_sub hl hl' hm
  simp [S.laws_szInt64S.run, w]
  by_cases h : left < xs.length
  · have : left - xs.length < 0 := by omega
    simp [h, this]
  · have : ¬ (left - xs.length < 0) := by omega
    simp [h, this]
theorem laws_toStringS_spec (xs : List (ByteArray)) (hm : okStringS xs) : NN fn.laws_toStringS [fzl true 1 cs xs] = some (fzl false 1 cs xs) := by
  apply S.laws_toStringS.gives (k := xs.length + 1)
  have hm' : xs.length ≤ 1048576 := hm.1
  have hk := kmake_eq (z := [(.str { data := #[] })]) (es := 1) (b := 16) (h := []) hm' (by omega) rfl
  simp [S.laws_toStringS.run, hk]
  refine (loop_to (f := fun r j => S.laws_toStringS.l6 _ _ r _ _ _ (.int .i64 (j : Int)) [fill cs [(.str { data := #[] })] xs j]) (A := some (fzl false 1 cs xs)) (n := xs.length) (fun j r hj => ?_) (fun r => ?_) (xs.length + 1) 0 (by omega) (by omega))
  · have g1 : (j : Int) < xs.length := by omega
    have w := wrap_succ (n := j) (by simp only [maxLen]; omega)
    have fl := fill_len (mk := cs) (z := [(.str { data := #[] })]) (es := 1) (fun _ => rfl) rfl xs j (by omega)
    have fs := fill_step (mk := cs) (z := [(.str { data := #[] })]) (es := 1) (fun _ => rfl) rfl xs j hj
    try simp only [Nat.mul_one] at fl fs
    have hj' : j * 1 + 1 ≤ xs.length * 1 := by omega
    have hj2 : j + 1 ≤ xs.length := hj
    simp [S.laws_toStringS.l6, g1, get_of hj, hj, hj', hj2, w, fl, fs, -splice]
  · simp [S.laws_toStringS.l6]
    exact finN_of (frz_sl (mk := cs) (mk' := cs) (rest := []) (fun _ => rfl) (by simp) (by rw [List.append_nil]; exact len_flat (mk := cs) (es := 1) (fun _ => rfl) xs) (Nat.le_refl _) (fun a _ => .cons frz_str (.nil)))
theorem laws_toInt64S_spec (xs : List (Int)) (hm : okInt64S xs) : NN fn.laws_toInt64S [fzl true 1 ci xs] = some (fzl false 1 ci xs) := by
  apply S.laws_toInt64S.gives (k := xs.length + 1)
  have hm' : xs.length ≤ 1048576 := hm
  have hk := kmake_eq (z := [(.int .i64 0)]) (es := 1) (b := 8) (h := []) hm' (by omega) rfl
  simp [S.laws_toInt64S.run, hk]
  refine (loop_to (f := fun r j => S.laws_toInt64S.l6 _ _ r _ _ _ (.int .i64 (j : Int)) [fill ci [(.int .i64 0)] xs j]) (A := some (fzl false 1 ci xs)) (n := xs.length) (fun j r hj => ?_) (fun r => ?_) (xs.length + 1) 0 (by omega) (by omega))
  · have g1 : (j : Int) < xs.length := by omega
    have w := wrap_succ (n := j) (by simp only [maxLen]; omega)
    have fl := fill_len (mk := ci) (z := [(.int .i64 0)]) (es := 1) (fun _ => rfl) rfl xs j (by omega)
    have fs := fill_step (mk := ci) (z := [(.int .i64 0)]) (es := 1) (fun _ => rfl) rfl xs j hj
    try simp only [Nat.mul_one] at fl fs
    have hj' : j * 1 + 1 ≤ xs.length * 1 := by omega
    have hj2 : j + 1 ≤ xs.length := hj
    simp [S.laws_toInt64S.l6, g1, get_of hj, hj, hj', hj2, w, fl, fs, -splice]
  · simp [S.laws_toInt64S.l6]
    exact finN_of (frz_sl (mk := ci) (mk' := ci) (rest := []) (fun _ => rfl) (by simp) (by rw [List.append_nil]; exact len_flat (mk := ci) (es := 1) (fun _ => rfl) xs) (Nat.le_refl _) (fun a _ => .cons frz_int (.nil)))
theorem laws_eqStringS_spec (xs ys : List (ByteArray)) (hm : okStringS xs) : NN fn.laws_eqStringS [fzl true 1 cs xs, fzl true 1 cs ys] = some (.bool (decide (xs = ys))) := by
  apply S.laws_eqStringS.gives (k := xs.length + 1)
  have hm' : xs.length ≤ 1048576 := hm.1
  simp [S.laws_eqStringS.run]
  by_cases hl : xs.length = ys.length
  · have hi : (xs.length : Int) = ys.length := by omega
    simp [hi]
    refine (loop_all (f := fun r j => S.laws_eqStringS.l6 _ _ r _ _ _ (.int .i64 (j : Int)) _) (A := some (GV.bool true)) (B := some (GV.bool false)) (n := xs.length) (P := fun j => xs[j]? = ys[j]?) (fun j r hj => ?_) (fun r => ?_) (xs.length + 1) 0 (by omega) (by omega)).trans ?_
    · have h1 : (j : Int) < xs.length := by omega
      have h2 : (j : Int) < ys.length := by omega
      have h3 : j < ys.length := by omega
      have w := wrap_succ (n := j) (by simp only [maxLen]; omega)
      by_cases hc : xs[j] = ys[j]
      · simp [S.laws_eqStringS.l6, h1, h2, get_of hj, get_of h3, w, hc]
      · simp [S.laws_eqStringS.l6, h1, h2, get_of hj, get_of h3, w, hc]
    · simp [S.laws_eqStringS.l6]
    · simp [list_eq_iff hl]
      by_cases hx : xs = ys <;> simp [hx]
  · have : ¬ ((xs.length : Int) = ys.length) := by omega
    have hne : xs ≠ ys := fun h => hl (by rw [h])
    simp [this, hne]
theorem laws_eqInt64S_spec (xs ys : List (Int)) (hm : okInt64S xs) : NN fn.laws_eqInt64S [fzl true 1 ci xs, fzl true 1 ci ys] = some (.bool (decide (xs = ys))) := by
  apply S.laws_eqInt64S.gives (k := xs.length + 1)
  have hm' : xs.length ≤ 1048576 := hm
  simp [S.laws_eqInt64S.run]
  by_cases hl : xs.length = ys.length
  · have hi : (xs.length : Int) = ys.length := by omega
    simp [hi]
    refine (loop_all (f := fun r j => S.laws_eqInt64S.l6 _ _ r _ _ _ (.int .i64 (j : Int)) _) (A := some (GV.bool true)) (B := some (GV.bool false)) (n := xs.length) (P := fun j => xs[j]? = ys[j]?) (fun j r hj => ?_) (fun r => ?_) (xs.length + 1) 0 (by omega) (by omega)).trans ?_
    · have h1 : (j : Int) < xs.length := by omega
      have h2 : (j : Int) < ys.length := by omega
      have h3 : j < ys.length := by omega
      have w := wrap_succ (n := j) (by simp only [maxLen]; omega)
      by_cases hc : xs[j] = ys[j]
      · simp [S.laws_eqInt64S.l6, h1, h2, get_of hj, get_of h3, w, hc]
      · simp [S.laws_eqInt64S.l6, h1, h2, get_of hj, get_of h3, w, hc]
    · simp [S.laws_eqInt64S.l6]
    · simp [list_eq_iff hl]
      by_cases hx : xs = ys <;> simp [hx]
  · have : ¬ ((xs.length : Int) = ys.length) := by omega
    have hne : xs ≠ ys := fun h => hl (by rw [h])
    simp [this, hne]

/-! Server -/
abbrev mServer (t : Bool) (a : (List (ByteArray) × Int)) : List GV := [fzl t 1 cs a.1, .int .i64 a.2]
def zServer (a : (List (ByteArray) × Int)) : Nat := zStringS a.1
def okServer (a : (List (ByteArray) × Int)) : Prop := okStringS a.1
theorem okServer_of {a : (List (ByteArray) × Int)} (h : zServer a ≤ 1048576) : okServer a := by
  unfold zServer at h
  exact okStringS_of (by omega)
@[simp] theorem kloadA_Server {h : Heap} {t : Bool} {xs : List (List (ByteArray) × Int)} {j : Nat} : kloadA 2 h (elp t (mServer t) xs j) = xs[j]?.map fun a => .agg (mServer t a) := kloadA_elp (mk := mServer t) (es := 2) (fun _ => rfl) (by omega)
@[simp] theorem kload1_Server_0 {h : Heap} {t : Bool} {xs : List ((List (ByteArray) × Int))} {j : Nat} : kload1 h (elf t (mServer t) xs j 0) = xs[j]?.bind fun a => (mServer t a)[0]? := kload1_elf (mk := mServer t) (es := 2) (fun _ => rfl) (by omega)
@[simp] theorem kload1_Server_1 {h : Heap} {t : Bool} {xs : List ((List (ByteArray) × Int))} {j : Nat} : kload1 h (elf t (mServer t) xs j 1) = xs[j]?.bind fun a => (mServer t a)[1]? := kload1_elf (mk := mServer t) (es := 2) (fun _ => rfl) (by omega)
@[simp] theorem kia_Server {t : Bool} {xs : List ((List (ByteArray) × Int))} {k : IntKind} {i : Int} : kia 2 (fzl t 2 (mServer t) xs) (.int k i) = if 0 ≤ i ∧ i < xs.length then some (elp t (mServer t) xs i.toNat) else none := kia_fzl (es := 2) (fun _ => rfl)
theorem ld_Server {d : Nat} {t : Bool} (a : (List (ByteArray) × Int)) : (mServer t a).map (lend (d + 1)) = mServer true a := map_cons' (lend_fzl (d := d) (mk := cs) (mk' := cs) (fun a => map_cons' lend_str rfl) a.1) (map_cons' lend_int (rfl))
@[simp] theorem bor_Server {d : Nat} {h : Heap} {t : Bool} {xs : List ((List (ByteArray) × Int))} : bor (d + 3) h (fzl t 2 (mServer t) xs) = some (fzl true 2 (mServer true) xs, []) := bor_fzl (d := d + 2) (fun a => ld_Server (d := d + 1) a) xs
theorem laws_szServer_spec (a1 : List (ByteArray)) (a2 : Int) (left : Int) (hi : (inSl (fun x1 : ByteArray => x1.size ≤ maxLen) a1) ∧ ((Lit.int .i64 a2).wf = true)) (hl : 0 ≤ left) (hl' : left ≤ 1048576) : NN fn.laws_szServer [.agg [fzl true 1 cs a1, .int .i64 a2], .int .i64 left] = some (.int .i64 (if left < (zServer (a1, a2) : Int) then -1 else left - zServer (a1, a2))) := by
  apply S.laws_szServer.gives (k := 0)
  show _ = some (GV.int .i64 (if left < ((zStringS a1 : Nat) : Int) then -1 else left - ((zStringS a1 : Nat) : Int)))
  have s0 := laws_szStringS_spec a1 (left) hi.1 (by omega) (by omega)
  by_cases c0 : left < ((zStringS a1 : Nat) : Int)
  · have d0 : left - ((zStringS a1 : Nat) : Int) < 0 := by omega
    rw [if_pos (by omega : left < ((zStringS a1 : Nat) : Int))]
    simp [S.laws_szServer.run, s0, c0, d0]
  have d0 : ¬ (left - ((zStringS a1 : Nat) : Int) < 0) := by omega
  rw [if_neg (by omega)]
  simp [S.laws_szServer.run, s0, c0, d0]
  try omega

/-! StringSS -/
abbrev mStringSS (t : Bool) (a : List (List (ByteArray))) : List GV := [fzl t 1 (mStringS t) a]
def zStringSS (a : List (List (ByteArray))) : Nat := a.length + (a.map fun x => zStringS x).sum
def okStringSS (a : List (List (ByteArray))) : Prop := a.length ≤ 1048576 ∧ ∀ x ∈ a, okStringS x
theorem okStringSS_of {a : List (List (ByteArray))} (h : zStringSS a ≤ 1048576) : okStringSS a := by
  unfold zStringSS at h
  refine ⟨by omega, fun x hx => ?_⟩
  have : zStringS x ≤ _ := sum_mem (c := fun x => zStringS x) hx
  exact okStringS_of (by omega)
@[simp] theorem kload1_StringSS {h : Heap} {t : Bool} {xs : List (List (List (ByteArray)))} {j : Nat} : kload1 h (elp t (mStringSS t) xs j) = xs[j]?.map fun a => fzl t 1 (mStringS t) a := kload1_elp _ (fun _ => rfl)
@[simp] theorem kia_StringSS {t : Bool} {xs : List (List (List (ByteArray)))} {k : IntKind} {i : Int} : kia 1 (fzl t 1 (mStringSS t) xs) (.int k i) = if 0 ≤ i ∧ i < xs.length then some (elp t (mStringSS t) xs i.toNat) else none := kia_fzl (es := 1) (fun _ => rfl)
theorem ld_StringSS {d : Nat} {t : Bool} (a : List (List (ByteArray))) : (mStringSS t a).map (lend (d + 2)) = mStringSS true a := map_cons' (lend_fzl (d := d + 1) (mk := (mStringS t)) (mk' := (mStringS true)) (fun a => ld_StringS (d := d) a) a) (rfl)
@[simp] theorem bor_StringSS {d : Nat} {h : Heap} {t : Bool} {xs : List (List (List (ByteArray)))} : bor (d + 4) h (fzl t 1 (mStringSS t) xs) = some (fzl true 1 (mStringSS true) xs, []) := bor_fzl (d := d + 3) (fun a => ld_StringSS (d := d + 1) a) xs
theorem laws_szStringSS_spec (xs : List (List (ByteArray))) (left : Int) (hi : inSl (fun x1 : List (ByteArray) => inSl (fun x2 : ByteArray => x2.size ≤ maxLen) x1) xs) (hl : 0 ≤ left) (hl' : left ≤ 1048576) : NN fn.laws_szStringSS [fzl true 1 (mStringS true) xs, .int .i64 left] = some (.int .i64 (if left < (zStringSS xs : Int) then -1 else left - zStringSS xs)) := by
  apply S.laws_szStringSS.gives (k := xs.length + 1)
  have w := wrap_sub hl hl' hi.1
  simp [S.laws_szStringSS.run, w]
  by_cases h : left < xs.length
  · have h1 : left - xs.length < 0 := by omega
    have h2 : left < (zStringSS xs : Int) := by unfold zStringSS; omega
    simp [h, h1, h2]
  · have h1 : ¬ (left - xs.length < 0) := by omega
    simp [h, h1]
    refine (loop_sz (xs := xs) (c := fun x => zStringS x) (f := fun r j l => S.laws_szStringSS.l7 _ _ r _ (.int .i64 l) _ (.int .i64 (j : Int)) _) (A := fun l => some (GV.int .i64 l)) (B := some (GV.int .i64 (-1))) (fun j r l hj h0 h0' => ?_) (fun r l => ?_) (xs.length + 1) 0 _ (by omega) (by omega) (by omega) (by omega)).trans ?_
    · have g1 : (j : Int) < xs.length := by omega
      have ws := wrap_succ (n := j) (by have := hi.1; omega)
      have sp := laws_szStringS_spec xs[j] l (hi.2 _ (List.getElem_mem hj)) h0 h0'
      by_cases hc : l < ((zStringS xs[j] : Nat) : Int)
      · have hc' : l - ((zStringS xs[j] : Nat) : Int) < 0 := by omega
        simp [S.laws_szStringSS.l7, g1, get_of hj, ws, sp, hc, hc']
      · have hc' : ¬ (l - ((zStringS xs[j] : Nat) : Int) < 0) := by omega
        simp [S.laws_szStringSS.l7, g1, get_of hj, ws, sp, hc, hc']
    · simp [S.laws_szStringSS.l7]
    · simp only [List.drop_zero]
      have e : ((zStringSS xs : Nat) : Int) = (xs.length : Int) + ((xs.map fun x => zStringS x).sum : Nat) := by unfold zStringSS; omega
      by_cases hc : left < (zStringSS xs : Int)
      · rw [if_pos hc, if_pos (by omega)]
      · rw [if_neg hc, if_neg (by omega)]
        congr 2; omega

/-! Int64SS -/
abbrev mInt64SS (t : Bool) (a : List (List (Int))) : List GV := [fzl t 1 (mInt64S t) a]
def zInt64SS (a : List (List (Int))) : Nat := a.length + (a.map fun x => zInt64S x).sum
def okInt64SS (a : List (List (Int))) : Prop := a.length ≤ 1048576 ∧ ∀ x ∈ a, okInt64S x
theorem okInt64SS_of {a : List (List (Int))} (h : zInt64SS a ≤ 1048576) : okInt64SS a := by
  unfold zInt64SS at h
  refine ⟨by omega, fun x hx => ?_⟩
  have : zInt64S x ≤ _ := sum_mem (c := fun x => zInt64S x) hx
  show zInt64S x ≤ _
  omega
@[simp] theorem kload1_Int64SS {h : Heap} {t : Bool} {xs : List (List (List (Int)))} {j : Nat} : kload1 h (elp t (mInt64SS t) xs j) = xs[j]?.map fun a => fzl t 1 (mInt64S t) a := kload1_elp _ (fun _ => rfl)
@[simp] theorem kia_Int64SS {t : Bool} {xs : List (List (List (Int)))} {k : IntKind} {i : Int} : kia 1 (fzl t 1 (mInt64SS t) xs) (.int k i) = if 0 ≤ i ∧ i < xs.length then some (elp t (mInt64SS t) xs i.toNat) else none := kia_fzl (es := 1) (fun _ => rfl)
theorem ld_Int64SS {d : Nat} {t : Bool} (a : List (List (Int))) : (mInt64SS t a).map (lend (d + 2)) = mInt64SS true a := map_cons' (lend_fzl (d := d + 1) (mk := (mInt64S t)) (mk' := (mInt64S true)) (fun a => ld_Int64S (d := d) a) a) (rfl)
@[simp] theorem bor_Int64SS {d : Nat} {h : Heap} {t : Bool} {xs : List (List (List (Int)))} : bor (d + 4) h (fzl t 1 (mInt64SS t) xs) = some (fzl true 1 (mInt64SS true) xs, []) := bor_fzl (d := d + 3) (fun a => ld_Int64SS (d := d + 1) a) xs
theorem laws_szInt64SS_spec (xs : List (List (Int))) (left : Int) (hi : inSl (fun x1 : List (Int) => inSl (fun x2 : Int => (Lit.int .i64 x2).wf = true) x1) xs) (hl : 0 ≤ left) (hl' : left ≤ 1048576) : NN fn.laws_szInt64SS [fzl true 1 (mInt64S true) xs, .int .i64 left] = some (.int .i64 (if left < (zInt64SS xs : Int) then -1 else left - zInt64SS xs)) := by
  apply S.laws_szInt64SS.gives (k := xs.length + 1)
  have w := wrap_sub hl hl' hi.1
  simp [S.laws_szInt64SS.run, w]
  by_cases h : left < xs.length
  · have h1 : left - xs.length < 0 := by omega
    have h2 : left < (zInt64SS xs : Int) := by unfold zInt64SS; omega
    simp [h, h1, h2]
  · have h1 : ¬ (left - xs.length < 0) := by omega
    simp [h, h1]
    refine (loop_sz (xs := xs) (c := fun x => zInt64S x) (f := fun r j l => S.laws_szInt64SS.l7 _ _ r _ (.int .i64 l) _ (.int .i64 (j : Int)) _) (A := fun l => some (GV.int .i64 l)) (B := some (GV.int .i64 (-1))) (fun j r l hj h0 h0' => ?_) (fun r l => ?_) (xs.length + 1) 0 _ (by omega) (by omega) (by omega) (by omega)).trans ?_
    · have g1 : (j : Int) < xs.length := by omega
      have ws := wrap_succ (n := j) (by have := hi.1; omega)
      have sp := laws_szInt64S_spec xs[j] l (hi.2 _ (List.getElem_mem hj)).1 h0 h0'
      by_cases hc : l < ((zInt64S xs[j] : Nat) : Int)
      · have hc' : l - ((zInt64S xs[j] : Nat) : Int) < 0 := by omega
        simp [S.laws_szInt64SS.l7, g1, get_of hj, ws, sp, hc, hc']
      · have hc' : ¬ (l - ((zInt64S xs[j] : Nat) : Int) < 0) := by omega
        simp [S.laws_szInt64SS.l7, g1, get_of hj, ws, sp, hc, hc']
    · simp [S.laws_szInt64SS.l7]
    · simp only [List.drop_zero]
      have e : ((zInt64SS xs : Nat) : Int) = (xs.length : Int) + ((xs.map fun x => zInt64S x).sum : Nat) := by unfold zInt64SS; omega
      by_cases hc : left < (zInt64SS xs : Int)
      · rw [if_pos hc, if_pos (by omega)]
      · rw [if_neg hc, if_neg (by omega)]
        congr 2; omega
theorem laws_toServer_spec (a1 : List (ByteArray)) (a2 : Int) (hm : okServer (a1, a2)) : NN fn.laws_toServer [.agg [fzl true 1 cs a1, .int .i64 a2]] = some (.agg [fzl false 1 cs a1, .int .i64 a2]) := by
  apply S.laws_toServer.gives (k := 0)
  unfold okServer at hm
  simp [S.laws_toServer.run, laws_toStringS_spec a1 hm]
  try exact finN_of (frz_agg (.cons frz_fzl (.cons frz_int (.nil))))
theorem laws_toStringSS_spec (xs : List (List (ByteArray))) (hm : okStringSS xs) : NN fn.laws_toStringSS [fzl true 1 (mStringS true) xs] = some (fzl false 1 (mStringS false) xs) := by
  apply S.laws_toStringSS.gives (k := xs.length + 1)
  have hm' : xs.length ≤ 1048576 := hm.1
  have hk := kmake_eq (z := [.nils]) (es := 1) (b := 24) (h := []) hm' (by omega) rfl
  simp [S.laws_toStringSS.run, hk]
  refine (loop_to (f := fun r j => S.laws_toStringSS.l6 _ _ r _ _ _ (.int .i64 (j : Int)) [fill (mStringS false) [.nils] xs j]) (A := some (fzl false 1 (mStringS false) xs)) (n := xs.length) (fun j r hj => ?_) (fun r => ?_) (xs.length + 1) 0 (by omega) (by omega))
  · have g1 : (j : Int) < xs.length := by omega
    have w := wrap_succ (n := j) (by simp only [maxLen]; omega)
    have fl := fill_len (mk := (mStringS false)) (z := [.nils]) (es := 1) (fun _ => rfl) rfl xs j (by omega)
    have fs := fill_step (mk := (mStringS false)) (z := [.nils]) (es := 1) (fun _ => rfl) rfl xs j hj
    try simp only [Nat.mul_one] at fl fs
    have hj' : j * 1 + 1 ≤ xs.length * 1 := by omega
    have hj2 : j + 1 ≤ xs.length := hj
    simp [S.laws_toStringSS.l6, g1, get_of hj, hj, hj', hj2, w, fl, laws_toStringS_spec xs[j] (hm.2 _ (List.getElem_mem hj)), fs, -splice]
  · simp [S.laws_toStringSS.l6]
    exact finN_of (frz_sl (mk := (mStringS false)) (mk' := (mStringS false)) (rest := []) (fun _ => rfl) (by simp) (by rw [List.append_nil]; exact len_flat (mk := (mStringS false)) (es := 1) (fun _ => rfl) xs) (Nat.le_refl _) (fun a _ => .cons frz_fzl (.nil)))
theorem laws_toInt64SS_spec (xs : List (List (Int))) (hm : okInt64SS xs) : NN fn.laws_toInt64SS [fzl true 1 (mInt64S true) xs] = some (fzl false 1 (mInt64S false) xs) := by
  apply S.laws_toInt64SS.gives (k := xs.length + 1)
  have hm' : xs.length ≤ 1048576 := hm.1
  have hk := kmake_eq (z := [.nils]) (es := 1) (b := 24) (h := []) hm' (by omega) rfl
  simp [S.laws_toInt64SS.run, hk]
  refine (loop_to (f := fun r j => S.laws_toInt64SS.l6 _ _ r _ _ _ (.int .i64 (j : Int)) [fill (mInt64S false) [.nils] xs j]) (A := some (fzl false 1 (mInt64S false) xs)) (n := xs.length) (fun j r hj => ?_) (fun r => ?_) (xs.length + 1) 0 (by omega) (by omega))
  · have g1 : (j : Int) < xs.length := by omega
    have w := wrap_succ (n := j) (by simp only [maxLen]; omega)
    have fl := fill_len (mk := (mInt64S false)) (z := [.nils]) (es := 1) (fun _ => rfl) rfl xs j (by omega)
    have fs := fill_step (mk := (mInt64S false)) (z := [.nils]) (es := 1) (fun _ => rfl) rfl xs j hj
    try simp only [Nat.mul_one] at fl fs
    have hj' : j * 1 + 1 ≤ xs.length * 1 := by omega
    have hj2 : j + 1 ≤ xs.length := hj
    simp [S.laws_toInt64SS.l6, g1, get_of hj, hj, hj', hj2, w, fl, laws_toInt64S_spec xs[j] (hm.2 _ (List.getElem_mem hj)), fs, -splice]
  · simp [S.laws_toInt64SS.l6]
    exact finN_of (frz_sl (mk := (mInt64S false)) (mk' := (mInt64S false)) (rest := []) (fun _ => rfl) (by simp) (by rw [List.append_nil]; exact len_flat (mk := (mInt64S false)) (es := 1) (fun _ => rfl) xs) (Nat.le_refl _) (fun a _ => .cons frz_fzl (.nil)))
theorem laws_eqServer_spec (a1 b1 : List (ByteArray)) (a2 b2 : Int) (hm : okServer (a1, a2)) : NN fn.laws_eqServer [.agg [fzl true 1 cs a1, .int .i64 a2], .agg [fzl true 1 cs b1, .int .i64 b2]] = some (.bool (decide ((a1, a2) = (b1, b2)))) := by
  apply S.laws_eqServer.gives (k := 0)
  unfold okServer at hm
  have s0 := laws_eqStringS_spec a1 b1 hm
  by_cases c0 : a1 = b1
  rotate_left
  · have e : ¬ ((a1, a2) = (b1, b2)) := fun e => c0 (by simp only [Prod.mk.injEq] at e ⊢; simp [e])
    rw [decide_eq_false e]
    rw [decide_eq_false c0] at s0
    simp [S.laws_eqServer.run, s0]
  rw [decide_eq_true c0] at s0
  by_cases c1 : a2 = b2
  rotate_left
  · have e : ¬ ((a1, a2) = (b1, b2)) := fun e => c1 (by simp only [Prod.mk.injEq] at e ⊢; simp [e])
    rw [decide_eq_false e]
    simp [S.laws_eqServer.run, s0, c1]
  have e : (a1, a2) = (b1, b2) := by rw [c0, c1]
  rw [decide_eq_true e]
  simp [S.laws_eqServer.run, s0, c1]
theorem laws_eqStringSS_spec (xs ys : List (List (ByteArray))) (hm : okStringSS xs) : NN fn.laws_eqStringSS [fzl true 1 (mStringS true) xs, fzl true 1 (mStringS true) ys] = some (.bool (decide (xs = ys))) := by
  apply S.laws_eqStringSS.gives (k := xs.length + 1)
  have hm' : xs.length ≤ 1048576 := hm.1
  simp [S.laws_eqStringSS.run]
  by_cases hl : xs.length = ys.length
  · have hi : (xs.length : Int) = ys.length := by omega
    simp [hi]
    refine (loop_all (f := fun r j => S.laws_eqStringSS.l6 _ _ r _ _ _ (.int .i64 (j : Int)) _) (A := some (GV.bool true)) (B := some (GV.bool false)) (n := xs.length) (P := fun j => xs[j]? = ys[j]?) (fun j r hj => ?_) (fun r => ?_) (xs.length + 1) 0 (by omega) (by omega)).trans ?_
    · have h1 : (j : Int) < xs.length := by omega
      have h2 : (j : Int) < ys.length := by omega
      have h3 : j < ys.length := by omega
      have w := wrap_succ (n := j) (by simp only [maxLen]; omega)
      have sp := laws_eqStringS_spec xs[j] ys[j] (hm.2 _ (List.getElem_mem hj))
      by_cases hc : xs[j] = ys[j]
      · have e1 : xs[j] = ys[j] := hc
        rw [decide_eq_true e1] at sp
        refine Eq.trans ?_ (if_pos (by rw [get_of hj, get_of h3, hc])).symm
        simp [S.laws_eqStringSS.l6, h1, h2, get_of hj, get_of h3, w, sp]
      · have e1 : ¬ (xs[j] = ys[j]) := hc
        rw [decide_eq_false e1] at sp
        refine Eq.trans ?_ (if_neg (by rw [get_of hj, get_of h3]; exact fun h => hc (Option.some.inj h))).symm
        simp [S.laws_eqStringSS.l6, h1, h2, get_of hj, get_of h3, w, sp]
    · simp [S.laws_eqStringSS.l6]
    · simp [list_eq_iff hl]
      by_cases hx : xs = ys <;> simp [hx]
  · have : ¬ ((xs.length : Int) = ys.length) := by omega
    have hne : xs ≠ ys := fun h => hl (by rw [h])
    simp [this, hne]
theorem laws_eqInt64SS_spec (xs ys : List (List (Int))) (hm : okInt64SS xs) : NN fn.laws_eqInt64SS [fzl true 1 (mInt64S true) xs, fzl true 1 (mInt64S true) ys] = some (.bool (decide (xs = ys))) := by
  apply S.laws_eqInt64SS.gives (k := xs.length + 1)
  have hm' : xs.length ≤ 1048576 := hm.1
  simp [S.laws_eqInt64SS.run]
  by_cases hl : xs.length = ys.length
  · have hi : (xs.length : Int) = ys.length := by omega
    simp [hi]
    refine (loop_all (f := fun r j => S.laws_eqInt64SS.l6 _ _ r _ _ _ (.int .i64 (j : Int)) _) (A := some (GV.bool true)) (B := some (GV.bool false)) (n := xs.length) (P := fun j => xs[j]? = ys[j]?) (fun j r hj => ?_) (fun r => ?_) (xs.length + 1) 0 (by omega) (by omega)).trans ?_
    · have h1 : (j : Int) < xs.length := by omega
      have h2 : (j : Int) < ys.length := by omega
      have h3 : j < ys.length := by omega
      have w := wrap_succ (n := j) (by simp only [maxLen]; omega)
      have sp := laws_eqInt64S_spec xs[j] ys[j] (hm.2 _ (List.getElem_mem hj))
      by_cases hc : xs[j] = ys[j]
      · have e1 : xs[j] = ys[j] := hc
        rw [decide_eq_true e1] at sp
        refine Eq.trans ?_ (if_pos (by rw [get_of hj, get_of h3, hc])).symm
        simp [S.laws_eqInt64SS.l6, h1, h2, get_of hj, get_of h3, w, sp]
      · have e1 : ¬ (xs[j] = ys[j]) := hc
        rw [decide_eq_false e1] at sp
        refine Eq.trans ?_ (if_neg (by rw [get_of hj, get_of h3]; exact fun h => hc (Option.some.inj h))).symm
        simp [S.laws_eqInt64SS.l6, h1, h2, get_of hj, get_of h3, w, sp]
    · simp [S.laws_eqInt64SS.l6]
    · simp [list_eq_iff hl]
      by_cases hx : xs = ys <;> simp [hx]
  · have : ¬ ((xs.length : Int) = ys.length) := by omega
    have hne : xs ≠ ys := fun h => hl (by rw [h])
    simp [this, hne]

/-! ServerS -/
abbrev mServerS (t : Bool) (a : List ((List (ByteArray) × Int))) : List GV := [fzl t 2 (mServer t) a]
def zServerS (a : List ((List (ByteArray) × Int))) : Nat := a.length + (a.map fun x => zServer x).sum
def okServerS (a : List ((List (ByteArray) × Int))) : Prop := a.length ≤ 1048576 ∧ ∀ x ∈ a, okServer x
theorem okServerS_of {a : List ((List (ByteArray) × Int))} (h : zServerS a ≤ 1048576) : okServerS a := by
  unfold zServerS at h
  refine ⟨by omega, fun x hx => ?_⟩
  have : zServer x ≤ _ := sum_mem (c := fun x => zServer x) hx
  exact okServer_of (by omega)
@[simp] theorem kload1_ServerS {h : Heap} {t : Bool} {xs : List (List ((List (ByteArray) × Int)))} {j : Nat} : kload1 h (elp t (mServerS t) xs j) = xs[j]?.map fun a => fzl t 2 (mServer t) a := kload1_elp _ (fun _ => rfl)
@[simp] theorem kia_ServerS {t : Bool} {xs : List (List ((List (ByteArray) × Int)))} {k : IntKind} {i : Int} : kia 1 (fzl t 1 (mServerS t) xs) (.int k i) = if 0 ≤ i ∧ i < xs.length then some (elp t (mServerS t) xs i.toNat) else none := kia_fzl (es := 1) (fun _ => rfl)
theorem ld_ServerS {d : Nat} {t : Bool} (a : List ((List (ByteArray) × Int))) : (mServerS t a).map (lend (d + 2)) = mServerS true a := map_cons' (lend_fzl (d := d + 1) (mk := (mServer t)) (mk' := (mServer true)) (fun a => ld_Server (d := d) a) a) (rfl)
@[simp] theorem bor_ServerS {d : Nat} {h : Heap} {t : Bool} {xs : List (List ((List (ByteArray) × Int)))} : bor (d + 4) h (fzl t 1 (mServerS t) xs) = some (fzl true 1 (mServerS true) xs, []) := bor_fzl (d := d + 3) (fun a => ld_ServerS (d := d + 1) a) xs
theorem laws_szServerS_spec (xs : List ((List (ByteArray) × Int))) (left : Int) (hi : inSl (fun x1 : (List (ByteArray) × Int) => (inSl (fun x2 : ByteArray => x2.size ≤ maxLen) x1.1) ∧ ((Lit.int .i64 x1.2).wf = true)) xs) (hl : 0 ≤ left) (hl' : left ≤ 1048576) : NN fn.laws_szServerS [fzl true 2 (mServer true) xs, .int .i64 left] = some (.int .i64 (if left < (zServerS xs : Int) then -1 else left - zServerS xs)) := by
  apply S.laws_szServerS.gives (k := xs.length + 1)
  have w := wrap_sub hl hl' hi.1
  simp [S.laws_szServerS.run, w]
  by_cases h : left < xs.length
  · have h1 : left - xs.length < 0 := by omega
    have h2 : left < (zServerS xs : Int) := by unfold zServerS; omega
    simp [h, h1, h2]
  · have h1 : ¬ (left - xs.length < 0) := by omega
    simp [h, h1]
    refine (loop_sz (xs := xs) (c := fun x => zServer x) (f := fun r j l => S.laws_szServerS.l7 _ _ r _ (.int .i64 l) _ (.int .i64 (j : Int)) _) (A := fun l => some (GV.int .i64 l)) (B := some (GV.int .i64 (-1))) (fun j r l hj h0 h0' => ?_) (fun r l => ?_) (xs.length + 1) 0 _ (by omega) (by omega) (by omega) (by omega)).trans ?_
    · have g1 : (j : Int) < xs.length := by omega
      have ws := wrap_succ (n := j) (by have := hi.1; omega)
      have sp := laws_szServer_spec xs[j].1 xs[j].2 l (hi.2 _ (List.getElem_mem hj)) h0 h0'
      by_cases hc : l < ((zServer xs[j] : Nat) : Int)
      · have hc' : l - ((zServer xs[j] : Nat) : Int) < 0 := by omega
        simp [S.laws_szServerS.l7, g1, get_of hj, ws, sp, hc, hc']
      · have hc' : ¬ (l - ((zServer xs[j] : Nat) : Int) < 0) := by omega
        simp [S.laws_szServerS.l7, g1, get_of hj, ws, sp, hc, hc']
    · simp [S.laws_szServerS.l7]
    · simp only [List.drop_zero]
      have e : ((zServerS xs : Nat) : Int) = (xs.length : Int) + ((xs.map fun x => zServer x).sum : Nat) := by unfold zServerS; omega
      by_cases hc : left < (zServerS xs : Int)
      · rw [if_pos hc, if_pos (by omega)]
      · rw [if_neg hc, if_neg (by omega)]
        congr 2; omega
theorem laws_toServerS_spec (xs : List ((List (ByteArray) × Int))) (hm : okServerS xs) : NN fn.laws_toServerS [fzl true 2 (mServer true) xs] = some (fzl false 2 (mServer false) xs) := by
  apply S.laws_toServerS.gives (k := xs.length + 1)
  have hm' : xs.length ≤ 1048576 := hm.1
  have hk := kmake_eq (z := [.nils, (.int .i64 0)]) (es := 2) (b := 32) (h := []) hm' (by omega) rfl
  simp [S.laws_toServerS.run, hk]
  refine (loop_to (f := fun r j => S.laws_toServerS.l6 _ _ r _ _ _ (.int .i64 (j : Int)) [fill (mServer false) [.nils, (.int .i64 0)] xs j]) (A := some (fzl false 2 (mServer false) xs)) (n := xs.length) (fun j r hj => ?_) (fun r => ?_) (xs.length + 1) 0 (by omega) (by omega))
  · have g1 : (j : Int) < xs.length := by omega
    have w := wrap_succ (n := j) (by simp only [maxLen]; omega)
    have fl := fill_len (mk := (mServer false)) (z := [.nils, (.int .i64 0)]) (es := 2) (fun _ => rfl) rfl xs j (by omega)
    have fs := fill_step (mk := (mServer false)) (z := [.nils, (.int .i64 0)]) (es := 2) (fun _ => rfl) rfl xs j hj
    try simp only [Nat.mul_one] at fl fs
    have hj' : j * 2 + 2 ≤ xs.length * 2 := by omega
    have hj2 : j + 1 ≤ xs.length := hj
    simp [S.laws_toServerS.l6, g1, get_of hj, hj, hj', hj2, w, fl, laws_toServer_spec xs[j].1 xs[j].2 (hm.2 _ (List.getElem_mem hj)), fs, -splice]
  · simp [S.laws_toServerS.l6]
    exact finN_of (frz_sl (mk := (mServer false)) (mk' := (mServer false)) (rest := []) (fun _ => rfl) (by simp) (by rw [List.append_nil]; exact len_flat (mk := (mServer false)) (es := 2) (fun _ => rfl) xs) (Nat.le_refl _) (fun a _ => .cons frz_fzl (.cons frz_int (.nil))))
theorem laws_eqServerS_spec (xs ys : List ((List (ByteArray) × Int))) (hm : okServerS xs) : NN fn.laws_eqServerS [fzl true 2 (mServer true) xs, fzl true 2 (mServer true) ys] = some (.bool (decide (xs = ys))) := by
  apply S.laws_eqServerS.gives (k := xs.length + 1)
  have hm' : xs.length ≤ 1048576 := hm.1
  simp [S.laws_eqServerS.run]
  by_cases hl : xs.length = ys.length
  · have hi : (xs.length : Int) = ys.length := by omega
    simp [hi]
    refine (loop_all (f := fun r j => S.laws_eqServerS.l6 _ _ r _ _ _ (.int .i64 (j : Int)) _) (A := some (GV.bool true)) (B := some (GV.bool false)) (n := xs.length) (P := fun j => xs[j]? = ys[j]?) (fun j r hj => ?_) (fun r => ?_) (xs.length + 1) 0 (by omega) (by omega)).trans ?_
    · have h1 : (j : Int) < xs.length := by omega
      have h2 : (j : Int) < ys.length := by omega
      have h3 : j < ys.length := by omega
      have w := wrap_succ (n := j) (by simp only [maxLen]; omega)
      have sp := laws_eqServer_spec xs[j].1 ys[j].1 xs[j].2 ys[j].2  (hm.2 _ (List.getElem_mem hj))
      by_cases hc : xs[j] = ys[j]
      · have e1 : (xs[j].1, xs[j].2) = (ys[j].1, ys[j].2) := hc
        rw [decide_eq_true e1] at sp
        refine Eq.trans ?_ (if_pos (by rw [get_of hj, get_of h3, hc])).symm
        simp [S.laws_eqServerS.l6, h1, h2, get_of hj, get_of h3, w, sp]
      · have e1 : ¬ ((xs[j].1, xs[j].2) = (ys[j].1, ys[j].2)) := hc
        rw [decide_eq_false e1] at sp
        refine Eq.trans ?_ (if_neg (by rw [get_of hj, get_of h3]; exact fun h => hc (Option.some.inj h))).symm
        simp [S.laws_eqServerS.l6, h1, h2, get_of hj, get_of h3, w, sp]
    · simp [S.laws_eqServerS.l6]
    · simp [list_eq_iff hl]
      by_cases hx : xs = ys <;> simp [hx]
  · have : ¬ ((xs.length : Int) = ys.length) := by omega
    have hne : xs ≠ ys := fun h => hl (by rw [h])
    simp [this, hne]

/-! Chain -/
abbrev mChain (t : Bool) (a : (List ((List (ByteArray) × Int)) × List (List (ByteArray)) × List (List (Int)))) : List GV := [fzl t 2 (mServer t) a.1, fzl t 1 (mStringS t) a.2.1, fzl t 1 (mInt64S t) a.2.2]
def zChain (a : (List ((List (ByteArray) × Int)) × List (List (ByteArray)) × List (List (Int)))) : Nat := zServerS a.1 + zStringSS a.2.1 + zInt64SS a.2.2
def okChain (a : (List ((List (ByteArray) × Int)) × List (List (ByteArray)) × List (List (Int)))) : Prop := okServerS a.1 ∧ okStringSS a.2.1 ∧ okInt64SS a.2.2
theorem okChain_of {a : (List ((List (ByteArray) × Int)) × List (List (ByteArray)) × List (List (Int)))} (h : zChain a ≤ 1048576) : okChain a := by
  unfold zChain at h
  exact ⟨okServerS_of (by omega), okStringSS_of (by omega), okInt64SS_of (by omega)⟩
@[simp] theorem kloadA_Chain {h : Heap} {t : Bool} {xs : List (List ((List (ByteArray) × Int)) × List (List (ByteArray)) × List (List (Int)))} {j : Nat} : kloadA 3 h (elp t (mChain t) xs j) = xs[j]?.map fun a => .agg (mChain t a) := kloadA_elp (mk := mChain t) (es := 3) (fun _ => rfl) (by omega)
@[simp] theorem kload1_Chain_0 {h : Heap} {t : Bool} {xs : List ((List ((List (ByteArray) × Int)) × List (List (ByteArray)) × List (List (Int))))} {j : Nat} : kload1 h (elf t (mChain t) xs j 0) = xs[j]?.bind fun a => (mChain t a)[0]? := kload1_elf (mk := mChain t) (es := 3) (fun _ => rfl) (by omega)
@[simp] theorem kload1_Chain_1 {h : Heap} {t : Bool} {xs : List ((List ((List (ByteArray) × Int)) × List (List (ByteArray)) × List (List (Int))))} {j : Nat} : kload1 h (elf t (mChain t) xs j 1) = xs[j]?.bind fun a => (mChain t a)[1]? := kload1_elf (mk := mChain t) (es := 3) (fun _ => rfl) (by omega)
@[simp] theorem kload1_Chain_2 {h : Heap} {t : Bool} {xs : List ((List ((List (ByteArray) × Int)) × List (List (ByteArray)) × List (List (Int))))} {j : Nat} : kload1 h (elf t (mChain t) xs j 2) = xs[j]?.bind fun a => (mChain t a)[2]? := kload1_elf (mk := mChain t) (es := 3) (fun _ => rfl) (by omega)
@[simp] theorem kia_Chain {t : Bool} {xs : List ((List ((List (ByteArray) × Int)) × List (List (ByteArray)) × List (List (Int))))} {k : IntKind} {i : Int} : kia 3 (fzl t 3 (mChain t) xs) (.int k i) = if 0 ≤ i ∧ i < xs.length then some (elp t (mChain t) xs i.toNat) else none := kia_fzl (es := 3) (fun _ => rfl)
theorem ld_Chain {d : Nat} {t : Bool} (a : (List ((List (ByteArray) × Int)) × List (List (ByteArray)) × List (List (Int)))) : (mChain t a).map (lend (d + 2)) = mChain true a := map_cons' (lend_fzl (d := d + 1) (mk := (mServer t)) (mk' := (mServer true)) (fun a => ld_Server (d := d) a) a.1) (map_cons' (lend_fzl (d := d + 1) (mk := (mStringS t)) (mk' := (mStringS true)) (fun a => ld_StringS (d := d) a) a.2.1) (map_cons' (lend_fzl (d := d + 1) (mk := (mInt64S t)) (mk' := (mInt64S true)) (fun a => ld_Int64S (d := d) a) a.2.2) (rfl)))
@[simp] theorem bor_Chain {d : Nat} {h : Heap} {t : Bool} {xs : List ((List ((List (ByteArray) × Int)) × List (List (ByteArray)) × List (List (Int))))} : bor (d + 4) h (fzl t 3 (mChain t) xs) = some (fzl true 3 (mChain true) xs, []) := bor_fzl (d := d + 3) (fun a => ld_Chain (d := d + 1) a) xs
theorem laws_szChain_spec (a1 : List ((List (ByteArray) × Int))) (a2 : List (List (ByteArray))) (a3 : List (List (Int))) (left : Int) (hi : (inSl (fun x1 : (List (ByteArray) × Int) => (inSl (fun x2 : ByteArray => x2.size ≤ maxLen) x1.1) ∧ ((Lit.int .i64 x1.2).wf = true)) a1) ∧ ((inSl (fun x1 : List (ByteArray) => inSl (fun x2 : ByteArray => x2.size ≤ maxLen) x1) a2) ∧ (inSl (fun x1 : List (Int) => inSl (fun x2 : Int => (Lit.int .i64 x2).wf = true) x1) a3))) (hl : 0 ≤ left) (hl' : left ≤ 1048576) : NN fn.laws_szChain [.agg [fzl true 2 (mServer true) a1, fzl true 1 (mStringS true) a2, fzl true 1 (mInt64S true) a3], .int .i64 left] = some (.int .i64 (if left < (zChain (a1, a2, a3) : Int) then -1 else left - zChain (a1, a2, a3))) := by
  apply S.laws_szChain.gives (k := 0)
  show _ = some (GV.int .i64 (if left < ((zServerS a1 + zStringSS a2 + zInt64SS a3 : Nat) : Int) then -1 else left - ((zServerS a1 + zStringSS a2 + zInt64SS a3 : Nat) : Int)))
  have s0 := laws_szServerS_spec a1 (left) hi.1 (by omega) (by omega)
  by_cases c0 : left < ((zServerS a1 : Nat) : Int)
  · have d0 : left - ((zServerS a1 : Nat) : Int) < 0 := by omega
    rw [if_pos (by omega : left < ((zServerS a1 + zStringSS a2 + zInt64SS a3 : Nat) : Int))]
    simp [S.laws_szChain.run, s0, c0, d0]
  have d0 : ¬ (left - ((zServerS a1 : Nat) : Int) < 0) := by omega
  have s1 := laws_szStringSS_spec a2 (left - ((zServerS a1 : Nat) : Int)) hi.2.1 (by omega) (by omega)
  by_cases c1 : left - ((zServerS a1 : Nat) : Int) < ((zStringSS a2 : Nat) : Int)
  · have d1 : left - ((zServerS a1 : Nat) : Int) - ((zStringSS a2 : Nat) : Int) < 0 := by omega
    rw [if_pos (by omega : left < ((zServerS a1 + zStringSS a2 + zInt64SS a3 : Nat) : Int))]
    simp [S.laws_szChain.run, s0, c0, d0, s1, c1, d1]
  have d1 : ¬ (left - ((zServerS a1 : Nat) : Int) - ((zStringSS a2 : Nat) : Int) < 0) := by omega
  have s2 := laws_szInt64SS_spec a3 (left - ((zServerS a1 : Nat) : Int) - ((zStringSS a2 : Nat) : Int)) hi.2.2 (by omega) (by omega)
  by_cases c2 : left - ((zServerS a1 : Nat) : Int) - ((zStringSS a2 : Nat) : Int) < ((zInt64SS a3 : Nat) : Int)
  · have d2 : left - ((zServerS a1 : Nat) : Int) - ((zStringSS a2 : Nat) : Int) - ((zInt64SS a3 : Nat) : Int) < 0 := by omega
    rw [if_pos (by omega : left < ((zServerS a1 + zStringSS a2 + zInt64SS a3 : Nat) : Int))]
    simp [S.laws_szChain.run, s0, c0, d0, s1, c1, d1, s2, c2, d2]
  have d2 : ¬ (left - ((zServerS a1 : Nat) : Int) - ((zStringSS a2 : Nat) : Int) - ((zInt64SS a3 : Nat) : Int) < 0) := by omega
  rw [if_neg (by omega)]
  simp [S.laws_szChain.run, s0, c0, d0, s1, c1, d1, s2, c2, d2]
  try omega
theorem laws_toChain_spec (a1 : List ((List (ByteArray) × Int))) (a2 : List (List (ByteArray))) (a3 : List (List (Int))) (hm : okChain (a1, a2, a3)) : NN fn.laws_toChain [.agg [fzl true 2 (mServer true) a1, fzl true 1 (mStringS true) a2, fzl true 1 (mInt64S true) a3]] = some (.agg [fzl false 2 (mServer false) a1, fzl false 1 (mStringS false) a2, fzl false 1 (mInt64S false) a3]) := by
  apply S.laws_toChain.gives (k := 0)
  unfold okChain at hm
  simp [S.laws_toChain.run, laws_toServerS_spec a1 hm.1, laws_toStringSS_spec a2 hm.2.1, laws_toInt64SS_spec a3 hm.2.2]
  try exact finN_of (frz_agg (.cons frz_fzl (.cons frz_fzl (.cons frz_fzl (.nil)))))
theorem laws_eqChain_spec (a1 b1 : List ((List (ByteArray) × Int))) (a2 b2 : List (List (ByteArray))) (a3 b3 : List (List (Int))) (hm : okChain (a1, a2, a3)) : NN fn.laws_eqChain [.agg [fzl true 2 (mServer true) a1, fzl true 1 (mStringS true) a2, fzl true 1 (mInt64S true) a3], .agg [fzl true 2 (mServer true) b1, fzl true 1 (mStringS true) b2, fzl true 1 (mInt64S true) b3]] = some (.bool (decide ((a1, a2, a3) = (b1, b2, b3)))) := by
  apply S.laws_eqChain.gives (k := 0)
  unfold okChain at hm
  have s0 := laws_eqServerS_spec a1 b1 hm.1
  by_cases c0 : a1 = b1
  rotate_left
  · have e : ¬ ((a1, a2, a3) = (b1, b2, b3)) := fun e => c0 (by simp only [Prod.mk.injEq] at e ⊢; simp [e])
    rw [decide_eq_false e]
    rw [decide_eq_false c0] at s0
    simp [S.laws_eqChain.run, s0]
  rw [decide_eq_true c0] at s0
  have s1 := laws_eqStringSS_spec a2 b2 hm.2.1
  by_cases c1 : a2 = b2
  rotate_left
  · have e : ¬ ((a1, a2, a3) = (b1, b2, b3)) := fun e => c1 (by simp only [Prod.mk.injEq] at e ⊢; simp [e])
    rw [decide_eq_false e]
    rw [decide_eq_false c1] at s1
    simp [S.laws_eqChain.run, s0, s1]
  rw [decide_eq_true c1] at s1
  have s2 := laws_eqInt64SS_spec a3 b3 hm.2.2
  by_cases c2 : a3 = b3
  rotate_left
  · have e : ¬ ((a1, a2, a3) = (b1, b2, b3)) := fun e => c2 (by simp only [Prod.mk.injEq] at e ⊢; simp [e])
    rw [decide_eq_false e]
    rw [decide_eq_false c2] at s2
    simp [S.laws_eqChain.run, s0, s1, s2]
  rw [decide_eq_true c2] at s2
  have e : (a1, a2, a3) = (b1, b2, b3) := by rw [c0, c1, c2]
  rw [decide_eq_true e]
  simp [S.laws_eqChain.run, s0, s1, s2]
end Go.Proofs.Ytleeifecdjolhaa.G
