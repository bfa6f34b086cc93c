/- Patches as numbers: all numbers of a patch, on both sides. -/
import Derived.Test.YtklhdbkaejbajaaDoorTPat2
namespace Go.Proofs.YtklhdbkaejbajaaDoor.G
open Go.RowKit Go.Lib
set_option linter.unusedVariables false
set_option linter.unusedSimpArgs false

/-- A loop that leaves at the first place that is right. -/
theorem loop_find {α R : Type} {xs : List α} {p : α → Bool} {f : Nat → Nat → R} {A : Nat → R} {B : R} (h1 : ∀ j r (hj : j < xs.length), f (r + 1) j = if p xs[j] = true then A j else f r (j + 1)) (h2 : ∀ r, f (r + 1) xs.length = B) :
    ∀ r j, xs.length - j < r → j ≤ xs.length → f r j = if (xs.drop j).any p = true then A (j + (xs.drop j).findIdx p) else B := by
  intro r
  induction r with
  | zero => intro j h; omega
  | succ r ih =>
    intro j hr hj
    rcases Nat.lt_or_ge j xs.length with h | h
    · rw [h1 j r h, List.drop_eq_getElem_cons h, List.any_cons, List.findIdx_cons]
      by_cases hp : p xs[j] = true
      · simp [hp]
      · rw [if_neg hp, ih (j + 1) (by omega) (by omega)]
        simp only [Bool.not_eq_true] at hp
        simp only [hp, Bool.false_or, cond_false]
        split
        · congr 1; omega
        · rfl
    · have : j = xs.length := by omega
      subst this
      rw [h2 r]
      simp
theorem slices_IndexFunc_int64_spec (xs : List Int) (fv : GV) (p : Int → Bool) (hm : xs.length ≤ 1048576) (hf : ∀ a ∈ xs, ∀ (h : Heap) (K : GV → Heap → Option GV), kval fv [.int .i64 a] h K = K (.bool (p a)) h) :
    NN fn.slices_IndexFunc_int64 [fzl true 1 ci xs, fv] = some (.int .i64 (if xs.any p = true then (xs.findIdx p : Int) else -1)) := by
  apply S.slices_IndexFunc_int64.gives (k := xs.length + 1)
  simp [S.slices_IndexFunc_int64.run, -List.any_eq_true]
  refine (loop_find (xs := xs) (p := p) (f := fun r j => S.slices_IndexFunc_int64.l5 _ _ r _ _ _ _ (.int .i64 (j : Int)) _) (A := fun j => some (GV.int .i64 (j : Int))) (B := some (GV.int .i64 (-1))) (fun j r hj => ?_) (fun r => ?_) (xs.length + 1) 0 (by omega) (by omega)).trans ?_
  · have h1 : (j : Int) < xs.length := by omega
    have w := wrap_succ (n := j) (by simp only [maxLen]; omega)
    have hk := hf xs[j] (List.getElem_mem hj)
    cases hp : p xs[j] <;> simp [S.slices_IndexFunc_int64.l5, h1, get_of hj, w, hk, hp]
  · simp [S.slices_IndexFunc_int64.l5]
  · simp only [List.drop_zero, Nat.zero_add]
    by_cases hx : xs.any p = true
    · rw [if_pos hx, if_pos hx]
    · rw [if_neg hx, if_neg hx]
theorem slices_ContainsFunc_int64_spec (xs : List Int) (fv fv' : GV) (p : Int → Bool) (hm : xs.length ≤ 1048576) (hb : bor 9 [] fv' = some (fv, [])) (hf : ∀ a ∈ xs, ∀ (h : Heap) (K : GV → Heap → Option GV), kval fv [.int .i64 a] h K = K (.bool (p a)) h) :
    NN fn.slices_ContainsFunc_int64 [fzl true 1 ci xs, fv'] = some (.bool (xs.any p)) := by
  apply S.slices_ContainsFunc_int64.gives (k := 0)
  by_cases h : xs.any p = true
  · have : (0 : Int) ≤ (xs.findIdx p : Int) := by omega
    simp only [h]
    simp [S.slices_ContainsFunc_int64.run, hb, slices_IndexFunc_int64_spec xs fv p hm hf, -List.any_eq_true, h, this]
  · simp only [Bool.not_eq_true] at h
    simp only [h]
    simp [S.slices_ContainsFunc_int64.run, hb, slices_IndexFunc_int64_spec xs fv p hm hf, -List.any_eq_false, h]

theorem kval_numbers_1 {R : Type} {caps args : List GV} {h : Heap} {K : GV → Heap → Option R} : kval (.fn fn.impl_Patch_numbers_1 caps) args h K = (kN NN fn.impl_Patch_numbers_1 (args ++ caps) h).bind fun v => K v h := by kernel_rfl
theorem impl_Patch_numbers_1_spec (n : Int) : NN fn.impl_Patch_numbers_1 [.int .i64 n] = some (.bool (!numP n)) := by
  apply S.impl_Patch_numbers_1.gives (k := 0)
  have k1 : ∀ (a b c : Int) H, kN NN fn.impl_in [.int .i64 a, .int .i64 b, .int .i64 c] H = some (.bool (decide (b ≤ a) && decide (a ≤ c))) := fun a b c H => kN_at (by simp) (impl_in_spec a b c)
  have q := k1 n 0 9999999
  unfold numP
  generalize (decide (0 ≤ n) && decide (n ≤ 9999999)) = c at *
  simp [S.impl_Patch_numbers_1.run, q, -kN_eq]
theorem any_numbers (ns : List Int) (hm : ns.length ≤ 1048576) : NN fn.slices_ContainsFunc_int64 [fzl true 1 ci ns, .fn fn.impl_Patch_numbers_1 []] = some (.bool (ns.any fun n => !numP n)) :=
  slices_ContainsFunc_int64_spec ns (.fn fn.impl_Patch_numbers_1 []) (.fn fn.impl_Patch_numbers_1 []) (fun n => !numP n) hm rfl (fun a _ h K => by
    rw [kval_numbers_1]
    have : kN NN fn.impl_Patch_numbers_1 ([.int .i64 a] ++ []) h = some (.bool (!numP a)) := kN_at (by simp) (impl_Patch_numbers_1_spec a)
    rw [this]; rfl)
theorem patN_len {p : Pat} (hc : p.2.2.length ≤ 400) (h : p.2.2.all chgP = true) : (patN p).length ≤ 121202 := by
  have := chgN_len h
  unfold patN
  rw [List.length_append]
  show 2 + _ ≤ _
  omega
/-- The program's numbers of a patch. -/
theorem impl_Patch_numbers_spec (p : Pat) (hc : p.2.2.length ≤ 400) : NN fn.impl_Patch_numbers [.agg (mPatch true p)] = some (.tup (if p.2.2.all chgP then [fzl false 1 ci (patN p), .bool (!(patN p).any fun n => !numP n)] else [mt, .bool false])) := by
  apply S.impl_Patch_numbers.gives (k := p.2.2.length + 61)
  have hbo : ∀ {Q : Type} (K : GV → Heap → Option Q), kbox (.agg (mPatch true p)) [] K = K (.ptr 0 0 3) [mPatch true p] := fun K => rfl
  have l0 : kload1 [mPatch true p] (.ptr 0 0 3) = some (.int .i64 p.1) := var_get (c := mPatch true p) rfl rfl
  have l1 : kload1 [mPatch true p] (.ptr 0 1 3) = some (.int .i64 p.2.1) := var_get (c := mPatch true p) rfl rfl
  have l2 : kload1 [mPatch true p, [.int .i64 p.1, .int .i64 p.2.1]] (.ptr 0 2 3) = some (fzl true 3 (mChange true) p.2.2) := var_get (c := mPatch true p) rfl rfl
  have gf := gf2 (a := p.1) (b := p.2.1)
  have kn := klen_fzl (t := true) (es := 3) (mk := mChange true) (xs := p.2.2)
  have s0 : St [] [p.1, p.2.1] (.sl 1 0 2 2 1, [mPatch true p, [.int .i64 p.1, .int .i64 p.2.1]]) := ⟨.inr ⟨1, rfl, rfl⟩, fun q hq => by cases hq⟩
  obtain ⟨c1, c2⟩ := in_changes GV (k := p.2.2.length + 61) (by omega) s0 hc (Nat.le_refl _) (cs := p.2.2) (m := p.2.2.length + 61) (by omega)
  cases hr : p.2.2.all chgP
  · obtain ⟨v, H, e⟩ := c2 hr
    have fin : finN (GV.tup [.nils, .bool false]) H = some (GV.tup [mt, .bool false]) := finN_of (frz_tup (.cons frz_nils (.cons frz_bool .nil)))
    show S.impl_Patch_numbers.run _ _ _ _ = some (GV.tup [mt, .bool false])
    simp only at e
    have ho : [mPatch true p] ++ [[GV.int .i64 p.1, .int .i64 p.2.1]] = [mPatch true p, [.int .i64 p.1, .int .i64 p.2.1]] := rfl
    have hl : List.length [mPatch true p] = 1 := rfl
    generalize mPatch true p = C at *
    generalize fzl true 3 (mChange true) p.2.2 = V at *
    generalize GV.int .i64 p.1 = x1 at *
    generalize GV.int .i64 p.2.1 = x2 at *
    simp [S.impl_Patch_numbers.run, hbo, l0, l1, l2, gf, kbs_eq, kn, e, fin, -kN_eq, -kbox_agg, -kload1_ptr]
  · obtain ⟨⟨v, H⟩, b1, e⟩ := c1 hr
    have hL := patN_len hc hr
    have b1' : BufG ci v (patN p) H := b1.1
    obtain ⟨r, hb⟩ := b1'.bor (fun _ => rfl) (fun _ => rfl)
    have ka : kN NN fn.slices_ContainsFunc_int64 [v, .fn fn.impl_Patch_numbers_1 []] H = some (.bool ((patN p).any fun n => !numP n)) := kN_at (xs := [fzl true 1 ci (patN p), .fn fn.impl_Patch_numbers_1 []]) (by rw [bors_cons, hb]; rfl) (any_numbers _ (by omega))
    obtain ⟨r2, hf⟩ := b1'.frz (fun _ => rfl) (d := 7) (fun a _ => Frz.ci)
    have fin : ∀ b, finN (GV.tup [v, .bool b]) H = some (GV.tup [fzl false 1 ci (patN p), .bool b]) := fun b => finN_of (frz_tup (.cons hf (.cons frz_bool .nil)))
    show S.impl_Patch_numbers.run _ _ _ _ = some (GV.tup [fzl false 1 ci (patN p), .bool (!(patN p).any fun n => !numP n)])
    generalize ((patN p).any fun n => !numP n) = B at *
    simp only at e
    generalize mPatch true p = C at *
    generalize fzl true 3 (mChange true) p.2.2 = V at *
    generalize fzl false 1 ci (patN p) = W at *
    generalize GV.int .i64 p.1 = x1 at *
    generalize GV.int .i64 p.2.1 = x2 at *
    simp [S.impl_Patch_numbers.run, hbo, l0, l1, l2, gf, kbs_eq, kn, e, ka, fin, -kN_eq, -kbox_agg, -kload1_ptr]

end Go.Proofs.YtklhdbkaejbajaaDoor.G
