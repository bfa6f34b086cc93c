/- A parser of runes, in plain Lean: what a rune does to it. A parser: what is right, how wide a rune is. The reference's ParserOk. A parser in memory: w -/
import Derived.Test.YtlbnioapepelnaaZ98435b81
import Derived.Test.YtlbnioapepelnaaZ93f7b1bc
import Derived.Test.YtlbnioapepelnaaZ255b3419
set_option linter.unusedSimpArgs false
set_option linter.unusedVariables false
namespace Go.Proofs.Ytlbnioapepelnaa.G
open Go.RowKit

abbrev ParserT := Int × List Int × Int × List Int
abbrev ActionT := Int × Int × List Int × Int × List Int
def parserB (p : ParserT) : Bool :=
  inB p.1 1 5 && (decide (p.2.1.length ≤ 16) && p.2.1.all fun n => inB n 0 9999) && (decide (p.2.2.1 = 0) || decide (p.2.2.1 = 63)) && (decide (p.2.2.2.length ≤ 40) && p.2.2.2.all runeB) &&
  (decide (p.1 = 3) || decide (p.2.1.length = 0) && decide (p.2.2.1 = 0)) && (decide (4 ≤ p.1) || decide (p.2.2.2.length = 0))
abbrev st0 (s : Int) : ParserT := (s, [], 0, [])
def nz (l : List Int) : List Int := if l.length = 0 then [0] else l
def setLast (l : List Int) (v : Int) : List Int := l.set (l.length - 1) v
def digM (p : ParserT) (r : Int) : ParserT := (p.1, setLast (nz p.2.1) (min ((nz p.2.1)[(nz p.2.1).length - 1]?.getD 0 * 10 + r - 48) 9999), p.2.2.1, p.2.2.2)
def sepM (p : ParserT) : ParserT := (p.1, if (nz p.2.1).length < 16 then nz p.2.1 ++ [0] else nz p.2.1, p.2.2.1, p.2.2.2)
def moreM (p : ParserT) (r : Int) : ParserT × List ActionT :=
  if r = 63 ∧ p.2.1.length = 0 ∧ p.2.2.1 = 0 then ((p.1, p.2.1, 63, p.2.2.2), [])
  else if inB r 48 57 = true then (digM p r, [])
  else if r = 59 then (sepM p, [])
  else (st0 1, if inB r 64 126 = true then [(4, r, p.2.1, p.2.2.1, [])] else [])
def endedM (p : ParserT) (r : Int) : ParserT × List ActionT := (st0 1, if r = 92 then [(5, 0, [], 0, p.2.2.2)] else [])
def titleM (p : ParserT) (r : Int) : ParserT × List ActionT :=
  if r = 7 then endedM p 92 else if r = 27 then ((5, p.2.1, p.2.2.1, p.2.2.2), []) else if p.2.2.2.length < 40 then ((p.1, p.2.1, p.2.2.1, p.2.2.2 ++ [r]), []) else (p, [])
def escM (r : Int) : ParserT × List ActionT :=
  if r = 91 then (st0 3, []) else if r = 93 then (st0 4, []) else (st0 1, if inB r 48 126 = true then [(3, r, [], 0, [])] else [])
def stepM (p : ParserT) (r : Int) : ParserT × List ActionT :=
  if p.1 = 4 then titleM p r else if p.1 = 5 then endedM p r else if r = 27 then (st0 2, []) else if r = 24 ∨ r = 26 then (st0 1, [])
  else if r < 32 ∨ r = 127 then (p, [(2, r, [], 0, [])]) else if p.1 = 2 then escM r else if p.1 = 3 then moreM p r
  else (p, if 0 < widthM r then [(1, r, [], 0, [])] else [])
def runM : List Int → ParserT → ParserT × List ActionT
  | [], p => (p, [])
  | r :: l, p => ((runM l (stepM p r).1).1, (stepM p r).2 ++ (runM l (stepM p r).1).2)
theorem runM_append : ∀ (l m : List Int) (p : ParserT), runM (l ++ m) p = ((runM m (runM l p).1).1, (runM l p).2 ++ (runM m (runM l p).1).2)
  | [], m, p => by simp [runM]
  | r :: l, m, p => by
    simp only [List.cons_append, runM]
    rw [runM_append l m]
    simp
theorem runM_snoc (l : List Int) (r : Int) (p : ParserT) : runM (l ++ [r]) p = ((stepM (runM l p).1 r).1, (runM l p).2 ++ (stepM (runM l p).1 r).2) := by
  rw [runM_append]; simp [runM]
def parsedM (p : ParserT) (l : List Int) : ParserT × List ActionT := if (parserB p && l.all runeB) = true then runM l p else ((0, [], 0, []), [])
def parsed2M (p : ParserT) (l : List Int) : ParserT × List ActionT := if l.length ≤ 2000 then parsedM p l else ((0, [], 0, []), [])

theorem parserB_iff {p : ParserT} : parserB p = true ↔ (1 ≤ p.1 ∧ p.1 ≤ 5) ∧ (p.2.1.length ≤ 16 ∧ ∀ n ∈ p.2.1, 0 ≤ n ∧ n ≤ 9999) ∧ (p.2.2.1 = 0 ∨ p.2.2.1 = 63) ∧ (p.2.2.2.length ≤ 40 ∧ ∀ r ∈ p.2.2.2, runeB r = true) ∧ (p.1 = 3 ∨ p.2.1.length = 0 ∧ p.2.2.1 = 0) ∧ (4 ≤ p.1 ∨ p.2.2.2.length = 0) := by
  unfold parserB
  simp only [Bool.and_eq_true, Bool.or_eq_true, decide_eq_true_eq, List.all_eq_true, inB_iff, and_assoc]
theorem st0_ok {s : Int} (h : 1 ≤ s ∧ s ≤ 5) : parserB (st0 s) = true := by
  rw [parserB_iff]
  refine ⟨h, ⟨by simp, by simp⟩, Or.inl rfl, ⟨by simp, by simp⟩, Or.inr ⟨rfl, rfl⟩, Or.inr rfl⟩
theorem nz_len (l : List Int) : 0 < (nz l).length ∧ ((nz l).length ≤ l.length ∨ (nz l).length = 1) := by
  unfold nz; split
  · exact ⟨by simp, Or.inr rfl⟩
  · exact ⟨by omega, Or.inl (Nat.le_refl _)⟩
theorem nz_ok {l : List Int} (h : ∀ n ∈ l, 0 ≤ n ∧ n ≤ 9999) : ∀ n ∈ nz l, 0 ≤ n ∧ n ≤ 9999 := by
  unfold nz; split
  · intro n hn; simp at hn; omega
  · exact h
theorem nz_last {l : List Int} (h : ∀ n ∈ l, 0 ≤ n ∧ n ≤ 9999) : 0 ≤ (nz l)[(nz l).length - 1]?.getD 0 ∧ (nz l)[(nz l).length - 1]?.getD 0 ≤ 9999 := by
  have := (nz_len l).1
  have hh : (nz l).length - 1 < (nz l).length := by omega
  rw [List.getElem?_eq_getElem hh]
  exact nz_ok h _ (List.getElem_mem hh)
theorem moreM_ok {p : ParserT} {r : Int} (h : parserB p = true) (h3 : p.1 = 3) : parserB (moreM p r).1 = true := by
  unfold moreM
  have h0 := parserB_iff.1 h
  obtain ⟨a1, ⟨a2, a3⟩, a4, a5, a6, a7⟩ := h0
  split
  · rw [parserB_iff]
    exact ⟨a1, ⟨a2, a3⟩, Or.inr rfl, a5, Or.inl h3, a7⟩
  · split
    · rename_i hr
      rw [inB_iff] at hr
      rw [parserB_iff]
      refine ⟨a1, ⟨?_, ?_⟩, a4, a5, Or.inl h3, a7⟩
      · show (setLast _ _).length ≤ 16
        unfold setLast; rw [List.length_set]
        have := nz_len p.2.1; omega
      · intro n hn
        rcases List.mem_or_eq_of_mem_set hn with hn | rfl
        · exact nz_ok a3 n hn
        · have := nz_last a3
          omega
    · split
      · rw [parserB_iff]
        refine ⟨a1, ?_, a4, a5, Or.inl h3, a7⟩
        show (sepM p).2.1.length ≤ 16 ∧ ∀ n ∈ (sepM p).2.1, 0 ≤ n ∧ n ≤ 9999
        unfold sepM
        simp only
        split
        · refine ⟨by rw [List.length_append]; simp; omega, fun n hn => ?_⟩
          rcases List.mem_append.1 hn with hn | hn
          · exact nz_ok a3 n hn
          · simp at hn; omega
        · refine ⟨?_, nz_ok a3⟩
          have := nz_len p.2.1; omega
      · exact st0_ok (by omega)
theorem stepM_ok {p : ParserT} {r : Int} (h : parserB p = true) (hr : runeB r = true) : parserB (stepM p r).1 = true := by
  have h0 := parserB_iff.1 h
  obtain ⟨a1, ⟨a2, a3⟩, a4, a5, a6, a7⟩ := h0
  unfold stepM
  split
  · rename_i h4
    unfold titleM endedM
    split
    · exact st0_ok (by omega)
    · split
      · rw [parserB_iff]
        exact ⟨by simp, ⟨a2, a3⟩, a4, a5, Or.inr (by simp only; rcases a6 with h | h; omega; exact h), Or.inl (by simp)⟩
      · split
        · rw [parserB_iff]
          refine ⟨a1, ⟨a2, a3⟩, a4, ⟨?_, fun n hn => ?_⟩, a6, Or.inl (by simp only; omega)⟩
          · rw [List.length_append]; simp; omega
          · rcases List.mem_append.1 hn with hn | hn
            · exact a5.2 n hn
            · simp at hn; rw [hn]; exact hr
        · exact h
  · split
    · exact st0_ok (by omega)
    · split
      · exact st0_ok (by omega)
      · split
        · exact st0_ok (by omega)
        · split
          · exact h
          · split
            · unfold escM
              split
              · exact st0_ok (by omega)
              · split <;> exact st0_ok (by omega)
            · split
              · rename_i h3
                exact moreM_ok h h3
              · exact h
theorem runM_ok : ∀ (l : List Int) {p : ParserT}, parserB p = true → l.all runeB = true → parserB (runM l p).1 = true
  | [], p, h, _ => h
  | r :: l, p, h, hl => by
    rw [List.all_cons, Bool.and_eq_true] at hl
    exact runM_ok l (stepM_ok h hl.1) hl.2
theorem stepM_one (p : ParserT) (r : Int) : (stepM p r).2.length ≤ 1 := by
  have h0 : ∀ (q : ParserT) (c : Prop) [Decidable c] (a : ActionT), ((q, if c then [a] else []) : ParserT × List ActionT).2.length ≤ 1 := fun q c _ a => by
    simp only; split <;> simp
  have h1 : ∀ q : ParserT, ((q, []) : ParserT × List ActionT).2.length ≤ 1 := fun q => by simp
  unfold stepM
  split
  · unfold titleM endedM
    split
    · exact h0 ..
    · split
      · exact h1 _
      · split <;> exact h1 _
  · split
    · exact h0 ..
    · split
      · exact h1 _
      · split
        · exact h1 _
        · split
          · simp
          · split
            · unfold escM
              split
              · exact h1 _
              · split
                · exact h1 _
                · exact h0 ..
            · split
              · unfold moreM
                split
                · exact h1 _
                · split
                  · exact h1 _
                  · split
                    · exact h1 _
                    · exact h0 ..
              · exact h0 ..
theorem runM_len : ∀ (l : List Int) (p : ParserT), (runM l p).2.length ≤ l.length
  | [], p => by simp [runM]
  | r :: l, p => by
    have := runM_len l (stepM p r).1
    have := stepM_one p r
    simp only [runM, List.length_append, List.length_cons]
    omega
end Go.Proofs.Ytlbnioapepelnaa.G

namespace Go.Proofs.Ytlbnioapepelnaa.G
open Go.RowKit
/-! Lists. -/
theorem slices_IndexFunc_int64_spec (xs : List Int) (fv : GV) (p : Int → Bool) (hm : xs.length ≤ 1048576) (hf : ∀ a ∈ xs, ∀ (h : Heap) (K : GV → Heap → Option GV), kval fv [.int .i64 a] h K = K (.bool (p a)) h) :
    NN fn.slices_IndexFunc_int64 [fzl true 1 ci xs, fv] = some (.int .i64 (if xs.any p = true then (xs.findIdx p : Int) else -1)) := by
  apply S.slices_IndexFunc_int64.gives (k := xs.length + 1)
  simp [S.slices_IndexFunc_int64.run, -List.any_eq_true]
  refine (loop_find (xs := xs) (p := p) (f := fun r j => S.slices_IndexFunc_int64.l5 _ _ r _ _ _ _ (.int .i64 (j : Int)) _) (A := fun j => some (GV.int .i64 (j : Int))) (B := some (GV.int .i64 (-1))) (fun j r hj => ?_) (fun r => ?_) (xs.length + 1) 0 (by omega) (by omega)).trans ?_
  · have h1 : (j : Int) < xs.length := by omega
    have w := wrap_succ (n := j) (by simp only [maxLen]; omega)
    have hk := hf xs[j] (List.getElem_mem hj)
    cases hp : p xs[j] <;> simp [S.slices_IndexFunc_int64.l5, h1, get_of hj, w, hk, hp]
  · simp [S.slices_IndexFunc_int64.l5]
  · simp only [List.drop_zero, Nat.zero_add]
    by_cases hx : xs.any p = true
    · rw [if_pos hx, if_pos hx]
    · rw [if_neg hx, if_neg hx]
theorem slices_ContainsFunc_int64_spec (xs : List Int) (fv fv' : GV) (p : Int → Bool) (hm : xs.length ≤ 1048576) (hb : bor 9 [] fv' = some (fv, [])) (hf : ∀ a ∈ xs, ∀ (h : Heap) (K : GV → Heap → Option GV), kval fv [.int .i64 a] h K = K (.bool (p a)) h) :
    NN fn.slices_ContainsFunc_int64 [fzl true 1 ci xs, fv'] = some (.bool (xs.any p)) := by
  apply S.slices_ContainsFunc_int64.gives (k := 0)
  by_cases h : xs.any p = true
  · have : (0 : Int) ≤ (xs.findIdx p : Int) := by omega
    simp only [h]
    simp [S.slices_ContainsFunc_int64.run, hb, slices_IndexFunc_int64_spec xs fv p hm hf, -List.any_eq_true, h, this]
  · simp only [Bool.not_eq_true] at h
    simp only [h]
    simp [S.slices_ContainsFunc_int64.run, hb, slices_IndexFunc_int64_spec xs fv p hm hf, -List.any_eq_false, h]
theorem kval_parsed_1 {R : Type} {caps args : List GV} {h : Heap} {K : GV → Heap → Option R} : kval (.fn fn.impl_parsed_1 caps) args h K = (kN NN fn.impl_parsed_1 (args ++ caps) h).bind fun v => K v h := by kernel_rfl
theorem kval_areTitle_1 {R : Type} {caps args : List GV} {h : Heap} {K : GV → Heap → Option R} : kval (.fn fn.impl_areTitle_1 caps) args h K = (kN NN fn.impl_areTitle_1 (args ++ caps) h).bind fun v => K v h := by kernel_rfl
theorem kval_areParams_1 {R : Type} {caps args : List GV} {h : Heap} {K : GV → Heap → Option R} : kval (.fn fn.impl_areParams_1 caps) args h K = (kN NN fn.impl_areParams_1 (args ++ caps) h).bind fun v => K v h := by kernel_rfl
theorem not_runes (xs : List Int) (hm : xs.length ≤ 1048576) : NN fn.slices_ContainsFunc_int64 [fzl true 1 ci xs, .fn fn.impl_parsed_1 []] = some (.bool !(xs.all runeB)) := by
  rw [← any_not]
  have e : ∀ r, NN fn.impl_parsed_1 [.int .i64 r] = some (.bool (!runeB r)) := fun r => by
    apply S.impl_parsed_1.gives (k := 0)
    have := k_rune r
    generalize runeB r = a at *
    simp [S.impl_parsed_1.run, this, -kN_eq]
  exact slices_ContainsFunc_int64_spec xs (.fn fn.impl_parsed_1 []) (.fn fn.impl_parsed_1 []) (fun a => !runeB a) hm rfl (fun a _ h K => by
    rw [kval_parsed_1, kN_at (xs := [.int .i64 a]) (by simp) (e a)]; rfl)
theorem not_title (xs : List Int) (hm : xs.length ≤ 1048576) : NN fn.slices_ContainsFunc_int64 [fzl true 1 ci xs, .fn fn.impl_areTitle_1 []] = some (.bool !(xs.all runeB)) := by
  rw [← any_not]
  have e : ∀ r, NN fn.impl_areTitle_1 [.int .i64 r] = some (.bool (!runeB r)) := fun r => by
    apply S.impl_areTitle_1.gives (k := 0)
    have := k_rune r
    generalize runeB r = a at *
    simp [S.impl_areTitle_1.run, this, -kN_eq]
  exact slices_ContainsFunc_int64_spec xs (.fn fn.impl_areTitle_1 []) (.fn fn.impl_areTitle_1 []) (fun a => !runeB a) hm rfl (fun a _ h K => by
    rw [kval_areTitle_1, kN_at (xs := [.int .i64 a]) (by simp) (e a)]; rfl)
theorem not_params (xs : List Int) (hm : xs.length ≤ 1048576) : NN fn.slices_ContainsFunc_int64 [fzl true 1 ci xs, .fn fn.impl_areParams_1 []] = some (.bool !(xs.all fun n => inB n 0 9999)) := by
  rw [← any_not]
  have e : ∀ r, NN fn.impl_areParams_1 [.int .i64 r] = some (.bool (!inB r 0 9999)) := fun r => by
    apply S.impl_areParams_1.gives (k := 0)
    have := k_in r 0 9999
    generalize inB r 0 9999 = a at *
    simp [S.impl_areParams_1.run, this, -kN_eq]
  exact slices_ContainsFunc_int64_spec xs (.fn fn.impl_areParams_1 []) (.fn fn.impl_areParams_1 []) (fun a => !inB a 0 9999) hm rfl (fun a _ h K => by
    rw [kval_areParams_1, kN_at (xs := [.int .i64 a]) (by simp) (e a)]; rfl)
theorem impl_areParams_spec (xs : List Int) (hm : xs.length ≤ 1048576) : NN fn.impl_areParams [fzl true 1 ci xs] = some (.bool (decide (xs.length ≤ 16) && xs.all fun n => inB n 0 9999)) := by
  apply S.impl_areParams.gives (k := 0)
  have q := kN_at (H := []) (args := [fzl true 1 ci xs, .fn fn.impl_areParams_1 []]) (xs := [fzl true 1 ci xs, .fn fn.impl_areParams_1 []]) (by simp; rfl) (not_params xs hm)
  have g : kbin .leq (.int .i64 (xs.length : Int)) (.int .i64 16) = some (.bool (decide (xs.length ≤ 16))) := by rw [kbin_leq]; congr 2; rw [Bool.eq_iff_iff]; simp; omega
  generalize (xs.all fun n => inB n 0 9999) = a at *
  generalize decide (xs.length ≤ 16) = b at *
  cases b <;> simp [S.impl_areParams.run, q, g, -kN_eq, -kbin_leq]
theorem impl_areTitle_spec (xs : List Int) (hm : xs.length ≤ 1048576) : NN fn.impl_areTitle [fzl true 1 ci xs] = some (.bool (decide (xs.length ≤ 40) && xs.all runeB)) := by
  apply S.impl_areTitle.gives (k := 0)
  have q := kN_at (H := []) (args := [fzl true 1 ci xs, .fn fn.impl_areTitle_1 []]) (xs := [fzl true 1 ci xs, .fn fn.impl_areTitle_1 []]) (by simp; rfl) (not_title xs hm)
  have g : kbin .leq (.int .i64 (xs.length : Int)) (.int .i64 40) = some (.bool (decide (xs.length ≤ 40))) := by rw [kbin_leq]; congr 2; rw [Bool.eq_iff_iff]; simp; omega
  generalize (xs.all runeB) = a at *
  generalize decide (xs.length ≤ 40) = b at *
  cases b <;> simp [S.impl_areTitle.run, q, g, -kN_eq, -kbin_leq]
theorem impl_isMark_spec (n : Int) : NN fn.impl_isMark [.int .i64 n] = some (.bool (decide (n = 0) || decide (n = 63))) := by
  apply S.impl_isMark.gives (k := 0)
  have g1 : kbin .eql (.int .i64 n) (.int .i64 0) = some (.bool (decide (n = 0))) := kbin_eql
  have g2 : kbin .eql (.int .i64 n) (.int .i64 63) = some (.bool (decide (n = 63))) := kbin_eql
  generalize decide (n = 0) = a at *
  generalize decide (n = 63) = b at *
  cases a <;> simp [S.impl_isMark.run, g1, g2, -kbin_eql]
theorem impl_ParserOk_spec (p : ParserT) (hok : okParser p) : NN fn.impl_ParserOk [.agg (mParser true p)] = some (.bool (parserB p)) := by
  obtain ⟨s, ps, mk, tx⟩ := p
  obtain ⟨hp, ht⟩ : ps.length ≤ 1048576 ∧ tx.length ≤ 1048576 := hok
  apply S.impl_ParserOk.gives (k := 0)
  obtain ⟨H, hH⟩ : ∃ H : Heap, [mParser true (s, ps, mk, tx)] = H := ⟨_, rfl⟩
  have A : H[0]? = some (mParser true (s, ps, mk, tx)) := by rw [← hH]; rfl
  have hbox : ∀ {Q : Type} (K : GV → Heap → Option Q), kbox (.agg (mParser true (s, ps, mk, tx))) [] K = K (.ptr 0 0 4) H := fun K => by rw [kbox_agg, ← hH]; rfl
  have l0 := kload1_at (o := 0) (tot := 4) A rfl
  have l1 := kload1_at (o := 1) (tot := 4) A rfl
  have l2 := kload1_at (o := 2) (tot := 4) A rfl
  have l3 := kload1_at (o := 3) (tot := 4) A rfl
  have q1 := k_in s 1 5 H
  have q2 := kN_at (H := H) (args := [fzl true 1 ci ps]) (xs := [fzl true 1 ci ps]) (by simp) (impl_areParams_spec ps hp)
  have q3 := kN_at (H := H) (args := [.int .i64 mk]) (xs := [.int .i64 mk]) (by simp) (impl_isMark_spec mk)
  have q4 := kN_at (H := H) (args := [fzl true 1 ci tx]) (xs := [fzl true 1 ci tx]) (by simp) (impl_areTitle_spec tx ht)
  have g1 : kbin .eql (.int .i64 s) (.int .i64 3) = some (.bool (decide (s = 3))) := kbin_eql
  have g2 : kbin .geq (.int .i64 s) (.int .i64 4) = some (.bool (decide (4 ≤ s))) := kbin_geq
  have g3 : kbin .eql (.int .i64 mk) (.int .i64 0) = some (.bool (decide (mk = 0))) := kbin_eql
  have g4 := klen0 (n := ps.length)
  have g5 := klen0 (n := tx.length)
  unfold parserB
  try simp only at l0 l1 l2 l3 ⊢
  generalize decide (s = 3) = b1 at *
  generalize decide (4 ≤ s) = b2 at *
  generalize decide (mk = 0) = b3 at *
  generalize decide (ps.length = 0) = b4 at *
  generalize decide (tx.length = 0) = b5 at *
  generalize inB s 1 5 = a1 at *
  generalize (decide (ps.length ≤ 16) && ps.all fun n => inB n 0 9999) = a2 at *
  generalize (b3 || decide (mk = 63)) = a3 at *
  generalize (decide (tx.length ≤ 40) && tx.all runeB) = a4 at *
  show S.impl_ParserOk.run 0 (.agg (mParser true (s, ps, mk, tx))) [] finN = _
  unfold S.impl_ParserOk.run S.impl_ParserOk.n0
  rw [hbox]
  cases a1
  · simp [l0, q1, -kN_eq, -kload1_ptr]
  cases a2
  · simp [l0, l1, q1, q2, -kN_eq, -kload1_ptr]
  cases a3
  · simp [l0, l1, l2, q1, q2, q3, -kN_eq, -kload1_ptr]
  cases a4
  · simp [l0, l1, l2, l3, q1, q2, q3, q4, -kN_eq, -kload1_ptr]
  cases b1 <;> cases b4 <;> cases b3 <;> cases b2 <;> simp [l0, l1, l2, l3, q1, q2, q3, q4, g1, g2, g3, g4, g5, -kN_eq, -kload1_ptr, -kbin_eql, -kbin_geq]
end Go.Proofs.Ytlbnioapepelnaa.G

namespace Go.Proofs.Ytlbnioapepelnaa.G
open Go.RowKit
theorem spec_l6Runes_spec (xs : List Int) (n : Nat) (hm : xs.length ≤ 1048576) : NN fn.spec_l6Runes [fzl true 1 ci xs, .int .i64 (n : Int)] = some (.bool (decide (xs.length ≤ n) && xs.all runeB)) := by
  apply S.spec_l6Runes.gives (k := xs.length + 1)
  have g : kbin .gtr (.int .i64 (xs.length : Int)) (.int .i64 (n : Int)) = some (.bool (!decide (xs.length ≤ n))) := by rw [kbin_gtr]; congr 2; rw [Bool.eq_iff_iff]; simp
  have key := fun G : GX → GV → Heap → Option GV => loop_allB (xs := xs) (p := runeB) (f := fun r j => S.spec_l6Runes.l6 (xs.length + 1) G r (fzl true 1 ci xs) (.bool false) (.int .i64 (j : Int)) []) (A := G (.ext 0) (.bool false) []) (B := G .ret (.bool false) []) (fun j r hj => by
    have g1 : kbin .lss (.int .i64 (j : Int)) (.int .i64 (xs.length : Int)) = some (.bool true) := by rw [klt, decide_eq_true hj]
    have kj := kadd1 (n := j) (by omega)
    have kr := k_srune xs[j]
    have k0 : kia 1 (fzl true 1 ci xs) (.int .i64 (j : Int)) = some (elp true ci xs j) := by rw [kia_fzl (es := 1) (fun _ => rfl), if_pos (by omega)]; rfl
    simp only [S.spec_l6Runes.l6]
    cases hr : runeB xs[j] <;> rw [hr] at kr <;> simp [g1, k0, get_of hj, kr, kj, -kN_eq, -kbin_lss, -kbin_add]) (fun r => by
    have g1 : kbin .lss (.int .i64 (xs.length : Int)) (.int .i64 (xs.length : Int)) = some (.bool false) := by rw [klt, decide_eq_false (by omega)]
    simp only [S.spec_l6Runes.l6]
    simp [g1, -kbin_lss]) (xs.length + 1) 0 (by omega) (by omega)
  simp only [List.drop_zero, show ((0 : Nat) : Int) = 0 from rfl] at key
  cases hd : decide (xs.length ≤ n) <;> rw [hd] at g
  · simp [S.spec_l6Runes.run, g, -kbin_gtr]
  · cases ha : xs.all runeB <;> simp only [ha, cond_true, cond_false] at key <;> simp [S.spec_l6Runes.run, g, key, -kbin_gtr]
theorem spec_ParserOk_spec (p : ParserT) (hok : okParser p) : NN fn.spec_ParserOk [.agg (mParser true p)] = some (.bool (parserB p)) := by
  obtain ⟨s, ps, mk, tx⟩ := p
  obtain ⟨hp, ht⟩ : ps.length ≤ 1048576 ∧ tx.length ≤ 1048576 := hok
  apply S.spec_ParserOk.gives (k := ps.length + 1)
  obtain ⟨H, hH⟩ : ∃ H : Heap, [mParser true (s, ps, mk, tx)] = H := ⟨_, rfl⟩
  have A : H[0]? = some (mParser true (s, ps, mk, tx)) := by rw [← hH]; rfl
  have hbox : ∀ {Q : Type} (K : GV → Heap → Option Q), kbox (.agg (mParser true (s, ps, mk, tx))) [] K = K (.ptr 0 0 4) H := fun K => by rw [kbox_agg, ← hH]; rfl
  have l0 := kload1_at (o := 0) (tot := 4) A rfl
  have l1 := kload1_at (o := 1) (tot := 4) A rfl
  have l2 := kload1_at (o := 2) (tot := 4) A rfl
  have l3 := kload1_at (o := 3) (tot := 4) A rfl
  have q1 := k_l1In s 1 5 H
  have q4 := kN_at (H := H) (args := [fzl true 1 ci tx, .int .i64 40]) (xs := [fzl true 1 ci tx, .int .i64 40]) (by simp) (spec_l6Runes_spec tx 40 ht)
  have g0 : kbin .gtr (.int .i64 (ps.length : Int)) (.int .i64 16) = some (.bool (!decide (ps.length ≤ 16))) := by rw [kbin_gtr]; congr 2; rw [Bool.eq_iff_iff]; simp; omega
  have g1 : kbin .eql (.int .i64 s) (.int .i64 3) = some (.bool (decide (s = 3))) := kbin_eql
  have g2 : kbin .geq (.int .i64 s) (.int .i64 4) = some (.bool (decide (4 ≤ s))) := kbin_geq
  have g3 : kbin .eql (.int .i64 mk) (.int .i64 0) = some (.bool (decide (mk = 0))) := kbin_eql
  have g3' : kbin .neq (.int .i64 mk) (.int .i64 0) = some (.bool (!decide (mk = 0))) := by rw [kbin_neq]; simp
  have g6 : kbin .neq (.int .i64 mk) (.int .i64 63) = some (.bool (!decide (mk = 63))) := by rw [kbin_neq]; simp
  have g4 := klen0 (n := ps.length)
  have g5 := klen0 (n := tx.length)
  try simp only at l0 l1 l2 l3
  have key := fun G : GX → GV → GV → Heap → Option GV => loop_allB (xs := ps) (p := fun n => inB n 0 9999) (f := fun r j => S.spec_ParserOk.l12 (ps.length + 1) G r (.ptr 0 0 4) (.bool false) (.int .i64 (j : Int)) H) (A := G (.ext 0) (.ptr 0 0 4) (.bool false) H) (B := G .ret (.ptr 0 0 4) (.bool false) H) (fun j r hj => by
    have g1 : kbin .lss (.int .i64 (j : Int)) (.int .i64 (ps.length : Int)) = some (.bool true) := by rw [klt, decide_eq_true hj]
    have kj := kadd1 (n := j) (by omega)
    have kr := k_l1In ps[j] 0 9999
    have k0 : kia 1 (fzl true 1 ci ps) (.int .i64 (j : Int)) = some (elp true ci ps j) := by rw [kia_fzl (es := 1) (fun _ => rfl), if_pos (by omega)]; rfl
    have ke : kload1 H (elp true ci ps j) = some (.int .i64 ps[j]) := by rw [kload1_ci, get_of hj]; rfl
    simp only [S.spec_ParserOk.l12]
    cases hr : inB ps[j] 0 9999 <;> rw [hr] at kr <;> simp [l1, g1, k0, ke, kr, kj, -kN_eq, -kbin_lss, -kbin_add, -kload1_ptr, -kload1_ci]) (fun r => by
    have g1 : kbin .lss (.int .i64 (ps.length : Int)) (.int .i64 (ps.length : Int)) = some (.bool false) := by rw [klt, decide_eq_false (by omega)]
    simp only [S.spec_ParserOk.l12]
    simp [l1, g1, -kbin_lss, -kload1_ptr]) (ps.length + 1) 0 (by omega) (by omega)
  simp only [List.drop_zero, show ((0 : Nat) : Int) = 0 from rfl] at key
  unfold parserB
  generalize decide (s = 3) = b1 at *
  generalize decide (4 ≤ s) = b2 at *
  generalize decide (mk = 0) = b3 at *
  generalize decide (ps.length = 0) = b4 at *
  generalize decide (tx.length = 0) = b5 at *
  generalize decide (mk = 63) = b6 at *
  generalize inB s 1 5 = a1 at *
  generalize decide (ps.length ≤ 16) = a2 at *
  generalize (ps.all fun n => inB n 0 9999) = a3 at *
  generalize (decide (tx.length ≤ 40) && tx.all runeB) = a4 at *
  show S.spec_ParserOk.run _ (.agg (mParser true (s, ps, mk, tx))) [] finN = _
  unfold S.spec_ParserOk.run S.spec_ParserOk.n0
  rw [hbox]
  have end3 : ∀ G : GX → GV → Heap → Option GV, S.spec_ParserOk.n3 (ps.length + 1) G (.ptr 0 0 4) (.bool false) H = G .ret (.bool ((b1 || b4 && b3) && (b2 || b5))) H := fun G => by
    cases b1 <;> cases b4 <;> cases b3 <;> cases b2 <;> simp [l0, l1, l2, l3, g1, g2, g3, g4, g5, -kN_eq, -kload1_ptr, -kbin_eql, -kbin_geq] <;> cases b5 <;> simp
  have end2 : ∀ G : GX → GV → Heap → Option GV, S.spec_ParserOk.n2 (ps.length + 1) G (.ptr 0 0 4) (.bool false) H = G .ret (.bool (a3 && ((b1 || b4 && b3) && (b2 || b5)))) H := fun G => by
    cases a3 <;> simp only [cond_true, cond_false] at key
    · simp [key, -S.spec_ParserOk.n3]
    · simp [key, end3, -S.spec_ParserOk.n3]
  have fin : ∀ b, finN (.bool b) H = some (.bool b) := fun _ => rfl
  cases a1
  · simp [l0, q1, -kN_eq, -kload1_ptr, -S.spec_ParserOk.n2]
  cases a2
  · simp [l0, l1, q1, g0, -kN_eq, -kload1_ptr, -kbin_gtr, -S.spec_ParserOk.n2]
  cases b3
  · cases b6
    · simp [l0, l1, l2, q1, g0, g3', g6, -kN_eq, -kload1_ptr, -kbin_gtr, -kbin_neq, -S.spec_ParserOk.n2]
    · cases a4 <;> simp [l0, l1, l2, l3, q1, q4, g0, g3', g6, end2, -kN_eq, -kload1_ptr, -kbin_gtr, -kbin_neq, -S.spec_ParserOk.n2, Bool.and_assoc]
  · cases a4 <;> simp [l0, l1, l2, l3, q1, q4, g0, g3', end2, -kN_eq, -kload1_ptr, -kbin_gtr, -kbin_neq, -S.spec_ParserOk.n2, Bool.and_assoc]
end Go.Proofs.Ytlbnioapepelnaa.G

namespace Go.Proofs.Ytlbnioapepelnaa.G
open Go.RowKit

theorem All3.cells {α : Type} {E : List GV → α → List Nat → Prop} (hc : ∀ {c x R}, E c x R → c.all GV.isCell = true) {css : List (List GV)} {xs : List α} {Rs : List (List Nat)} (ha : All3 E css xs Rs) : css.flatten.all GV.isCell = true := by
  induction ha with
  | nil => rfl
  | cons a _ ih => rw [List.flatten_cons, List.all_append, hc a, ih]; rfl
theorem All3.app {α : Type} {E : List GV → α → List Nat → Prop} {c1 c2 : List (List GV)} {x1 x2 : List α} {R1 R2 : List (List Nat)} (h1 : All3 E c1 x1 R1) (h2 : All3 E c2 x2 R2) : All3 E (c1 ++ c2) (x1 ++ x2) (R1 ++ R2) := by
  induction h1 with
  | nil => exact h2
  | cons a _ ih => exact .cons a ih
theorem app_sls {α : Type} {es d b : Nat} {mk : α → List GV} {E : Rel α} (hE : Good es d mk E) (h0 : 0 < es) {z : List GV} (hz : z.length = es) (hb : b ≤ 1024) {H : Heap} {v : GV} {xs : List α} {R : List Nat} (he : RSl es E H [v] xs R) (nd : R.Nodup)
    {w : GV} {ys : List α} {S : List Nat} (hw : RSl es E H [w] ys S) (nS : S.Nodup) (dj : ∀ i ∈ S, i ∉ R) (hn : xs.length + ys.length ≤ 4194304) :
    ∃ v' H' R', kapp z es b v w H = some (v', H') ∧ RSl es E H' [v'] (xs ++ ys) R' ∧ R'.Nodup ∧ (∀ i ∈ R', i ∈ R ∨ i ∈ S ∨ i = H.length) ∧ Fr R H H' := by
  have hmul : ∀ k, k ≤ 4194304 → k * b ≤ roomMax := fun k hk => by
    have := Nat.mul_le_mul hk hb
    simp only [roomMax]; omega
  rcases hw with ⟨rfl, rfl, hc⟩ | ⟨j, cs2, Rs2, hw2, hj, ha2, rfl⟩
  · -- nothing comes
    have hg : gcells H es w = some (0, [], []) := by rcases hc with hc | hc <;> (injection hc with hc; subst hc; rfl)
    have e : kapp z es b v w H = some (v, H) := by
      unfold kapp
      rw [hg]
      simp only [Option.bind_some]
      rw [if_pos ⟨rfl, hz, by simp only [maxLen]; omega, hmul 0 (by omega)⟩]
      rcases he with ⟨rfl, rfl, hc⟩ | ⟨i, css, Rs, hv, hi, ha, rfl⟩
      · rcases hc with hc | hc <;> (injection hc with hc; subst hc; rfl)
      · injection hv with hv
        subst hv
        obtain ⟨fl, _⟩ := All3.flen (fun h => hE.len h) ha
        have hil := (List.getElem?_eq_some_iff.1 hi)
        have hs : H.set i css.flatten = H := by
          obtain ⟨h1, h2⟩ := hil
          rw [← h2]; exact List.set_getElem_self h1
        have e1 : splice css.flatten (xs.length * es) ([] : List GV) = css.flatten := by simp [splice]
        simp only [cellsAt_if, hi, Option.bind_some, Nat.zero_add, fl, if_true]
        rw [if_pos ⟨trivial, Nat.le_refl _, hmul _ (by simpa using hn), by simp only [maxLen]; simp at hn; omega⟩, if_pos (by omega), e1, hs]
        rfl
    exact ⟨v, H, R, e, by simpa using he, nd, fun i hi => Or.inl hi, .refl⟩
  · injection hw2 with hw2
    subst hw2
    obtain ⟨fl2, _⟩ := All3.flen (fun h => hE.len h) ha2
    have hc2 : cs2.flatten.all GV.isCell = true := ha2.cells fun h => hE.cell h
    have hg : gcells H es (.sl j 0 ys.length ys.length es) = some (ys.length, cs2.flatten, [j]) := by
      unfold gcells
      simp only [Option.bind_eq_bind, cellsAt_if, hj, Option.bind_some, Nat.zero_add, fl2, if_true, List.drop_zero, Nat.le_refl]
      rw [List.take_of_length_le (by omega)]
      simp
    rw [List.nodup_cons] at nS
    rcases he with ⟨rfl, rfl, hc⟩ | ⟨i, css, Rs, hv, hi, ha, rfl⟩
    · by_cases hy : ys.length = 0
      · have hy' := List.eq_nil_of_length_eq_zero hy
        subst hy'
        cases ha2
        refine ⟨v, H, [], ?_, Or.inl ⟨rfl, rfl, hc⟩, List.nodup_nil, fun i hi => by (cases hi), .refl⟩
        unfold kapp
        rw [hg]
        simp only [Option.bind_some]
        rw [if_pos ⟨hc2, hz, by simp [maxLen], hmul _ (by simp)⟩]
        rcases hc with hc | hc <;> (injection hc with hc; subst hc; rfl)
      · refine ⟨.sl H.length 0 ys.length ys.length es, H ++ [cs2.flatten], H.length :: Rs2.flatten, ?_, Or.inr ⟨H.length, cs2, Rs2, by rw [List.nil_append], by simp, All3.frame (fun a b => hE.frame a b) ha2 fun k hk => List.getElem?_append_left (All3.mem (fun a => hE.mem a) ha2 k hk), rfl⟩, ?_, fun k hk => ?_, .app⟩
        · unfold kapp
          rw [hg]
          simp only [Option.bind_some]
          rw [if_pos ⟨hc2, hz, by simp only [maxLen]; simp at hn; omega, hmul _ (by simpa using hn)⟩]
          rcases hc with hc | hc <;> (injection hc with hc; subst hc; simp only; rw [if_neg hy])
        · rw [List.nodup_cons]
          exact ⟨fun h => by have := All3.mem (fun a => hE.mem a) ha2 _ h; omega, nS.2⟩
        · rcases List.mem_cons.1 hk with rfl | hk
          · exact Or.inr (Or.inr rfl)
          · exact Or.inr (Or.inl (List.mem_cons_of_mem _ hk))
    · injection hv with hv
      subst hv
      obtain ⟨fl, _⟩ := All3.flen (fun h => hE.len h) ha
      rw [List.nodup_cons] at nd
      have hil := (List.getElem?_eq_some_iff.1 hi).1
      have hji : j ≠ i := fun e => dj j (List.mem_cons_self ..) (by rw [e]; exact List.mem_cons_self ..)
      have hi2 : i ∉ Rs2.flatten := fun h => dj i (List.mem_cons_of_mem _ h) (List.mem_cons_self ..)
      refine ⟨.sl i 0 (xs ++ ys).length (xs ++ ys).length es, H.set i (css ++ cs2).flatten, i :: (Rs.flatten ++ Rs2.flatten), ?_, Or.inr ⟨i, css ++ cs2, Rs ++ Rs2, rfl, List.getElem?_set_self hil, ?_, by rw [List.flatten_append]⟩, ?_, fun k hk => ?_, .set (List.mem_cons_self ..)⟩
      · unfold kapp
        rw [hg]
        simp only [Option.bind_some]
        rw [if_pos ⟨hc2, hz, by simp only [maxLen]; omega, hmul _ (by omega)⟩]
        simp only [Nat.zero_add, cellsAt_if, hi, Option.bind_some, fl, if_true]
        rw [if_pos ⟨trivial, Nat.le_refl _, hmul _ hn, by simp only [maxLen]; omega⟩]
        by_cases hy : ys.length = 0
        · have hy' := List.eq_nil_of_length_eq_zero hy
          subst hy'
          cases ha2
          rw [if_pos (by omega)]
          have e1 : splice css.flatten (xs.length * es) ([] : List GV) = css.flatten := by simp [splice]
          simp [e1]
        · rw [if_neg (by omega), if_pos ⟨trivial, h0⟩, List.length_append, List.flatten_append, List.take_of_length_le (by omega)]
      · have f1 := All3.frame (h' := H.set i (css ++ cs2).flatten) (fun a b => hE.frame a b) ha fun k hk => List.getElem?_set_ne fun e => nd.1 (by rw [e]; exact hk)
        have f2 := All3.frame (h' := H.set i (css ++ cs2).flatten) (fun a b => hE.frame a b) ha2 fun k hk => List.getElem?_set_ne fun e => hi2 (by rw [e]; exact hk)
        exact f1.app f2
      · rw [List.nodup_cons, List.nodup_append, List.mem_append]
        exact ⟨fun h => h.elim nd.1 hi2, nd.2, nS.2, fun a ha b hb e => dj b (List.mem_cons_of_mem _ hb) (List.mem_cons_of_mem _ (e ▸ ha))⟩
      · rcases List.mem_cons.1 hk with rfl | hk
        · exact Or.inl (List.mem_cons_self ..)
        · rcases List.mem_append.1 hk with hk | hk
          · exact Or.inl (List.mem_cons_of_mem _ hk)
          · exact Or.inr (Or.inl (List.mem_cons_of_mem _ hk))

structure PIn (b : Nat) (p : ParserT) (H : Heap) (vP vT : GV) (RP RT : List Nat) : Prop where
  cell : H[b]? = some [.int .i64 p.1, vP, .int .i64 p.2.2.1, vT]
  ps : rInt64S H [vP] p.2.1 RP
  tx : rInt64S H [vT] p.2.2.2 RT
  np : RP.Nodup
  nt : RT.Nodup
  dj : ∀ i ∈ RP, i ∉ RT
  bp : b ∉ RP
  bt : b ∉ RT
def Stp (b : Nat) (q : ParserT × List ActionT) (H H' : Heap) (v : GV) (RP RT : List Nat) : Prop :=
  ∃ vP vT RP' RT' RA, PIn b q.1 H' vP vT RP' RT' ∧ rActionS H' [v] q.2 RA ∧ RA.Nodup ∧ (∀ i ∈ RA, i ∉ RP' ∧ i ∉ RT' ∧ i ≠ b) ∧ (∀ i, i ∈ RP' ∨ i ∈ RT' ∨ i ∈ RA → i ∈ RP ∨ i ∈ RT ∨ H.length ≤ i) ∧ Fr (b :: (RP ++ RT)) H H'
theorem no_act {H : Heap} : rActionS H [.nils] [] [] := Or.inl ⟨rfl, rfl, Or.inr rfl⟩
theorem no_act' {H : Heap} : rActionS H [.emp] [] [] := Or.inl ⟨rfl, rfl, Or.inl rfl⟩
theorem no_ints {H : Heap} : rInt64S H [.nils] [] [] := Or.inl ⟨rfl, rfl, Or.inr rfl⟩
abbrev actC (k r : Int) (vP : GV) (m : Int) (vT : GV) : List GV := [.int .i64 k, .int .i64 r, vP, .int .i64 m, vT]
abbrev actZ : List GV := [.int .i64 0, .int .i64 0, .nils, .int .i64 0, .nils]
theorem act_rel {H : Heap} {k r m : Int} {vP vT : GV} {ps tx : List Int} {RP RT : List Nat} (hp : rInt64S H [vP] ps RP) (ht : rInt64S H [vT] tx RT) : rAction H (actC k r vP m vT) (k, r, ps, m, tx) (RP ++ RT) :=
  ⟨[.int .i64 k], [.int .i64 r, vP, .int .i64 m, vT], [], RP ++ RT, rfl, rfl, ⟨rfl, rfl⟩, [.int .i64 r], [vP, .int .i64 m, vT], [], RP ++ RT, rfl, rfl, ⟨rfl, rfl⟩, [vP], [.int .i64 m, vT], RP, RT, rfl, rfl, hp, [.int .i64 m], [vT], [], RT, rfl, rfl, ⟨rfl, rfl⟩, ht⟩
theorem act_one {H : Heap} {c : List GV} {a : ActionT} {R : List Nat} {b : Nat} (hb : H[b]? = some c) (h : rAction H c a R) : rActionS H [.sl b 0 1 1 5] [a] (b :: R) :=
  Or.inr ⟨b, [c], [R], rfl, by simpa using hb, .cons h .nil, by simp⟩
theorem cells1 {H : Heap} {v : GV} {xs : List Int} {R : List Nat} (h : rInt64S H [v] xs R) : v.cells = [v] ∧ v.isCell = true := cell_of h

/-! What the program's parser does. -/
theorem become_op {b : Nat} {H : Heap} {c : List GV} (hb : H[b]? = some c) (hc : c.length = 4) (s : Int) : HH fn.impl_Parser_become [.ptr b 0 4, .int .i64 s] H = some (.tup [], H.set b [.int .i64 s, .nils, .int .i64 0, .nils]) := by
  apply S.impl_Parser_become.gives (k := 0)
  have s1 := kstoreA_at (n := 4) hb hc (c' := [.int .i64 s, .nils, .int .i64 0, .nils]) rfl rfl
  simp [S.impl_Parser_become.run, gfill, knil, s1, -kstore_ptr]
theorem become_in {b : Nat} {H : Heap} {c : List GV} (hb : H[b]? = some c) (s : Int) : PIn b (st0 s) (H.set b [.int .i64 s, .nils, .int .i64 0, .nils]) .nils .nils [] [] :=
  ⟨by rw [List.getElem?_set_self (List.getElem?_eq_some_iff.1 hb).1], no_ints, no_ints, List.nodup_nil, List.nodup_nil, fun _ h => by (cases h), no_nil, no_nil⟩
theorem knil_ptr {i o t : Nat} : knil (.ptr i o t) = some (.ptr i o t) := rfl
theorem ended_op {b : Nat} {p : ParserT} {H : Heap} {vP vT : GV} {RP RT : List Nat} (h : PIn b p H vP vT RP RT) (r : Int) : ∃ v H', HH fn.impl_Parser_ended [.ptr b 0 4, .int .i64 r] H = some (v, H') ∧ Stp b (endedM p r) H H' v RP RT := by
  have hbl := (List.getElem?_eq_some_iff.1 h.cell).1
  have g : kbin .eql (.int .i64 r) (.int .i64 92) = some (.bool (decide (r = 92))) := kbin_eql
  by_cases hr : r = 92
  · rw [decide_eq_true hr] at g
    have vc := cells1 h.tx
    have l3 := kload1_at (o := 3) (tot := 4) h.cell rfl
    simp only [List.getElem?_cons_succ, List.getElem?_cons_zero] at l3
    obtain ⟨H1, hH1⟩ : ∃ H1, H ++ [actC 5 0 .nils 0 vT] = H1 := ⟨_, rfl⟩
    have ka : kapp actZ 5 72 .emp (.sl H.length 0 1 1 5) H1 = some (.sl H1.length 0 1 1 5, H1 ++ [actC 5 0 .nils 0 vT]) := by
      rw [← hH1]
      unfold kapp
      have hg : gcells (H ++ [actC 5 0 .nils 0 vT]) 5 (.sl H.length 0 1 1 5) = some (1, actC 5 0 .nils 0 vT, [H.length]) := by
        unfold gcells; simp
      rw [hg]
      simp only [Option.bind_some]
      rw [if_pos ⟨by simp [vc.2], rfl, by simp [maxLen], by simp [roomMax]⟩]
      rfl
    have l1 : H1.length = H.length + 1 := by rw [← hH1]; simp
    obtain ⟨H2, hH2⟩ : ∃ H2, H1 ++ [actC 5 0 .nils 0 vT] = H2 := ⟨_, rfl⟩
    rw [hH2] at ka
    have f2 : Fr [] H H2 := by rw [← hH2, ← hH1]; exact Fr.app.trans .app
    have C2 := f2.blk h.cell no_nil
    have B2 : H2[H1.length]? = some (actC 5 0 .nils 0 vT) := by rw [← hH2]; simp
    have t2 := goodInt64S.keep h.tx f2 (fun _ _ => no_nil)
    have hb3 := become_op C2 rfl 1
    have f3 : Fr [b] H2 (H2.set b [.int .i64 1, .nils, .int .i64 0, .nils]) := .set (by simp)
    have t3 := goodInt64S.keep t2 f3 (fun i hi h' => by rw [List.mem_singleton] at h'; exact h.bt (h' ▸ hi))
    have B3 := f3.blk B2 (by simp; omega)
    have hm := goodInt64S.mem h.tx
    have hl2 : H2.length = H.length + 2 := by rw [← hH2]; simp; omega
    refine ⟨.sl H1.length 0 1 1 5, H2.set b [.int .i64 1, .nils, .int .i64 0, .nils], S.impl_Parser_ended.gives (k := 0) ?_, .nils, .nils, [], [], H1.length :: ([] ++ RT), ?_⟩
    rotate_left
    · unfold endedM
      rw [if_pos hr]
      refine ⟨become_in C2 1, act_one B3 (act_rel no_ints t3), ?_, fun i hi => ⟨no_nil, no_nil, fun e => ?_⟩, fun i hi => ?_, (f2.sub (fun i hi => by cases hi)).trans (f3.sub (by simp))⟩
      · rw [List.nil_append, List.nodup_cons]
        exact ⟨fun h' => by have := hm _ h'; omega, h.nt⟩
      · subst e
        rcases List.mem_cons.1 hi with rfl | hi
        · omega
        · exact h.bt (by simpa using hi)
      · rcases hi with hi | hi | hi
        · cases hi
        · cases hi
        · rcases List.mem_cons.1 hi with rfl | hi
          · exact Or.inr (Or.inr (by omega))
          · exact Or.inr (Or.inl (by simpa using hi))
    · simp [S.impl_Parser_ended.run, g, knil_ptr, l3, gfill, zeros, vc.1, vc.2, kbs_at, hH1, ka, hb3, -kload1_ptr, -kstore_ptr, -kbin_eql]
  · rw [decide_eq_false hr] at g
    have hb3 := become_op h.cell rfl 1
    refine ⟨.emp, H.set b [.int .i64 1, .nils, .int .i64 0, .nils], S.impl_Parser_ended.gives (k := 0) ?_, .nils, .nils, [], [], [], ?_⟩
    rotate_left
    · unfold endedM
      rw [if_neg hr]
      exact ⟨become_in h.cell 1, no_act', List.nodup_nil, fun i hi => by (cases hi), fun i hi => by simp at hi, Fr.set (by simp)⟩
    · simp [S.impl_Parser_ended.run, g, hb3, -kload1_ptr, -kstore_ptr, -kbin_eql]
end Go.Proofs.Ytlbnioapepelnaa.G

namespace Go.Proofs.Ytlbnioapepelnaa.G
open Go.RowKit

theorem Stp.same {b : Nat} {p : ParserT} {H : Heap} {vP vT : GV} {RP RT : List Nat} (h : PIn b p H vP vT RP RT) : Stp b (p, []) H H .nils RP RT :=
  ⟨vP, vT, RP, RT, [], h, no_act, List.nodup_nil, fun i hi => by (cases hi), fun i hi => by simpa [or_assoc] using hi.elim (fun h => Or.inl h) (fun h => Or.inr (h.elim (fun h => Or.inl h) (fun h => by cases h))), .refl⟩
theorem PIn.keep {b : Nat} {p : ParserT} {H H' : Heap} {vP vT : GV} {RP RT S : List Nat} (h : PIn b p H vP vT RP RT) (f : Fr S H H') (hb : b ∉ S) (hp : ∀ i ∈ RP, i ∉ S) (ht : ∀ i ∈ RT, i ∉ S) : PIn b p H' vP vT RP RT :=
  ⟨f.blk h.cell hb, goodInt64S.keep h.ps f hp, goodInt64S.keep h.tx f ht, h.np, h.nt, h.dj, h.bp, h.bt⟩
theorem Stp.emit {b : Nat} {p : ParserT} {H : Heap} {vP vT : GV} {RP RT : List Nat} (h : PIn b p H vP vT RP RT) (k r : Int) : Stp b (p, [(k, r, [], 0, [])]) H (H ++ [actC k r .nils 0 .nils]) (.sl H.length 0 1 1 5) RP RT := by
  have hbl := (List.getElem?_eq_some_iff.1 h.cell).1
  have hP := goodInt64S.mem h.ps
  have hT := goodInt64S.mem h.tx
  refine ⟨vP, vT, RP, RT, H.length :: ([] ++ []), h.keep (S := []) .app no_nil (fun _ _ => no_nil) (fun _ _ => no_nil), act_one (by simp) (act_rel no_ints no_ints), by simp, fun i hi => ?_, fun i hi => ?_, .app⟩
  · simp only [List.append_nil, List.mem_singleton] at hi
    subst hi
    exact ⟨fun h => by have := hP _ h; omega, fun h => by have := hT _ h; omega, by omega⟩
  · rcases hi with hi | hi | hi
    · exact Or.inl hi
    · exact Or.inr (Or.inl hi)
    · simp only [List.append_nil, List.mem_singleton] at hi
      exact Or.inr (Or.inr (by omega))
theorem Stp.fresh {b : Nat} {p : ParserT} {H : Heap} {vP vT : GV} {RP RT : List Nat} (h : PIn b p H vP vT RP RT) (s : Int) : Stp b (st0 s, []) H (H.set b [.int .i64 s, .nils, .int .i64 0, .nils]) .nils RP RT :=
  ⟨.nils, .nils, [], [], [], become_in h.cell s, no_act, List.nodup_nil, fun i hi => by (cases hi), fun i hi => by simp at hi, .set (by simp)⟩
theorem Stp.then {b : Nat} {p q : ParserT} {l : List ActionT} {H H' H'' : Heap} {v v0 : GV} {RP RT : List Nat} (h1 : Stp b (p, []) H H' v0 RP RT) (h2 : ∀ vP vT RP' RT', PIn b p H' vP vT RP' RT' → Stp b (q, l) H' H'' v RP' RT') : Stp b (q, l) H H'' v RP RT := by
  obtain ⟨vP, vT, RP', RT', RA, a1, a2, a3, a4, a5, a6⟩ := h1
  obtain ⟨wP, wT, SP, ST, SA, b1, b2, b3, b4, b5, b6⟩ := h2 vP vT RP' RT' a1
  have hl := a6.1
  refine ⟨wP, wT, SP, ST, SA, b1, b2, b3, b4, fun i hi => ?_, ?_⟩
  · rcases b5 i hi with h | h | h
    · exact a5 i (Or.inl h)
    · exact a5 i (Or.inr (Or.inl h))
    · exact Or.inr (Or.inr (by omega))
  · refine ⟨Nat.le_trans a6.1 b6.1, fun i hi hn => ?_⟩
    rw [← a6.2 i hi hn]
    refine b6.2 i (by omega) fun h => ?_
    rw [List.mem_cons, List.mem_append] at h hn
    rcases h with h | h | h
    · exact hn (Or.inl h)
    · rcases a5 i (Or.inl h) with h | h | h
      · exact hn (Or.inr (Or.inl h))
      · exact hn (Or.inr (Or.inr h))
      · omega
    · rcases a5 i (Or.inr (Or.inl h)) with h | h | h
      · exact hn (Or.inr (Or.inl h))
      · exact hn (Or.inr (Or.inr h))
      · omega
theorem PIn.pushT {b : Nat} {p : ParserT} {H : Heap} {vP vT : GV} {RP RT : List Nat} (h : PIn b p H vP vT RP RT) (hn : p.2.2.2.length ≤ 4194304) (r : Int) :
    ∃ v' H4 H5, kapp [.int .i64 0] 1 8 vT (.sl H.length 0 1 1 1) (H ++ [[.int .i64 r]]) = some (v', H4) ∧ kstore 1 H4 (.ptr b 3 4) v' = some H5 ∧ Stp b ((p.1, p.2.1, p.2.2.1, p.2.2.2 ++ [r]), []) H H5 .nils RP RT := by
  have hP := goodInt64S.mem h.ps
  have hT := goodInt64S.mem h.tx
  obtain ⟨v', H4, H5, R', a1, a2, a3, a4, a5, a6, a7⟩ := push (mk := ci) (E := RFl ci) (es := 1) (d := 1) (RFl.good (fun _ => rfl) (fun _ => rfl)) (by omega) (z := [.int .i64 0]) (b := 8) rfl (by omega) h.tx h.nt hn (cx := [.int .i64 r]) (x := r) (Rx := []) ⟨rfl, rfl⟩ List.nodup_nil (fun i hi => by (cases hi)) (p := b) (o := 3) (n := 4) h.cell rfl (by omega) h.bt no_nil
  have f0 : Fr (b :: RT) H H5 := a7
  refine ⟨v', H4, H5, a1, a2, vP, v', RP, R', [], ⟨a6, goodInt64S.keep h.ps f0 (fun i hi h' => ?_), a3, h.np, a4, fun i hi h' => ?_, h.bp, fun h' => ?_⟩, no_act, List.nodup_nil, fun i hi => by (cases hi), fun i hi => ?_, f0.sub fun i hi => ?_⟩
  · rcases List.mem_cons.1 h' with h' | h'
    · exact h.bp (h' ▸ hi)
    · exact h.dj i hi h'
  · rcases a5 i h' with h' | h' | h'
    · exact h.dj i hi h'
    · cases h'
    · have := hP i hi; omega
  · rcases a5 b h' with h' | h' | h'
    · exact h.bt h'
    · cases h'
    · have := (List.getElem?_eq_some_iff.1 h.cell).1; omega
  · rcases hi with hi | hi | hi
    · exact Or.inl hi
    · rcases a5 i hi with h' | h' | h'
      · exact Or.inr (Or.inl h')
      · cases h'
      · exact Or.inr (Or.inr h')
    · cases hi
  · rcases List.mem_cons.1 hi with h' | h'
    · rw [h']; simp
    · simp [h']
theorem PIn.pushP {b : Nat} {p : ParserT} {H : Heap} {vP vT : GV} {RP RT : List Nat} (h : PIn b p H vP vT RP RT) (hn : p.2.1.length ≤ 4194304) (r : Int) :
    ∃ v' H4 H5, kapp [.int .i64 0] 1 8 vP (.sl H.length 0 1 1 1) (H ++ [[.int .i64 r]]) = some (v', H4) ∧ kstore 1 H4 (.ptr b 1 4) v' = some H5 ∧ Stp b ((p.1, p.2.1 ++ [r], p.2.2.1, p.2.2.2), []) H H5 .nils RP RT := by
  have hP := goodInt64S.mem h.ps
  have hT := goodInt64S.mem h.tx
  obtain ⟨v', H4, H5, R', a1, a2, a3, a4, a5, a6, a7⟩ := push (mk := ci) (E := RFl ci) (es := 1) (d := 1) (RFl.good (fun _ => rfl) (fun _ => rfl)) (by omega) (z := [.int .i64 0]) (b := 8) rfl (by omega) h.ps h.np hn (cx := [.int .i64 r]) (x := r) (Rx := []) ⟨rfl, rfl⟩ List.nodup_nil (fun i hi => by (cases hi)) (p := b) (o := 1) (n := 4) h.cell rfl (by omega) h.bp no_nil
  have f0 : Fr (b :: RP) H H5 := a7
  refine ⟨v', H4, H5, a1, a2, v', vT, R', RT, [], ⟨a6, a3, goodInt64S.keep h.tx f0 (fun i hi h' => ?_), a4, h.nt, fun i hi h' => ?_, fun h' => ?_, h.bt⟩, no_act, List.nodup_nil, fun i hi => by (cases hi), fun i hi => ?_, f0.sub fun i hi => ?_⟩
  · rcases List.mem_cons.1 h' with h' | h'
    · exact h.bt (h' ▸ hi)
    · exact h.dj i h' hi
  · rcases a5 i hi with h2 | h2 | h2
    · exact h.dj i h2 h'
    · cases h2
    · have := hT i h'; omega
  · rcases a5 b h' with h' | h' | h'
    · exact h.bp h'
    · cases h'
    · have := (List.getElem?_eq_some_iff.1 h.cell).1; omega
  · rcases hi with hi | hi | hi
    · rcases a5 i hi with h' | h' | h'
      · exact Or.inl h'
      · cases h'
      · exact Or.inr (Or.inr h')
    · exact Or.inr (Or.inl hi)
    · cases hi
  · rcases List.mem_cons.1 hi with h' | h'
    · rw [h']; simp
    · simp [h']
theorem ints_some {H : Heap} {v : GV} {xs : List Int} {R : List Nat} (he : rInt64S H [v] xs R) (hne : 0 < xs.length) : ∃ b, v = .sl b 0 xs.length xs.length 1 ∧ H[b]? = some (xs.flatMap ci) ∧ R = [b] := by
  rcases he with ⟨rfl, _, _⟩ | ⟨b, css, Rs, hv, hb, ha, rfl⟩
  · cases hne
  · injection hv with hv
    have e : ∀ {css : List (List GV)} {xs : List Int} {Rs : List (List Nat)}, All3 (RFl ci H) css xs Rs → css.flatten = xs.flatMap ci ∧ Rs.flatten = [] := by
      intro css xs Rs ha
      induction ha with
      | nil => exact ⟨rfl, rfl⟩
      | cons a _ ih =>
        obtain ⟨rfl, rfl⟩ := a
        exact ⟨by rw [List.flatten_cons, ih.1]; rfl, by rw [List.flatten_cons, ih.2]; rfl⟩
    obtain ⟨e1, e2⟩ := e ha
    exact ⟨b, hv, by rw [hb, e1], by rw [e2]⟩
theorem rNewI {xs : List Int} {H : Heap} {b : Nat} (h : H[b]? = some (xs.flatMap ci)) : rInt64S H [.sl b 0 xs.length xs.length 1] xs [b] := by
  refine Or.inr ⟨b, xs.map ci, xs.map fun _ => [], rfl, by rw [h, List.flatMap_def], ?_, ?_⟩
  · clear h
    induction xs with
    | nil => exact .nil
    | cons x xs ih => exact .cons ⟨rfl, rfl⟩ ih
  · have : (xs.map fun _ => ([] : List Nat)).flatten = [] := by
      clear h
      induction xs with
      | nil => rfl
      | cons x xs ih => rw [List.map_cons, List.flatten_cons, ih]; rfl
    rw [this]
theorem ci_get {xs : List Int} {k : Nat} : (xs.flatMap ci)[k]? = xs[k]?.map (GV.int .i64) := by
  have e : xs.flatMap ci = xs.map (GV.int .i64) := by
    induction xs with
    | nil => rfl
    | cons x xs ih => rw [List.flatMap_cons, ih]; rfl
  rw [e, List.getElem?_map]
theorem ci_set {xs : List Int} {k : Nat} {v : Int} : (xs.flatMap ci).set k (.int .i64 v) = (xs.set k v).flatMap ci := by
  have e : ∀ xs : List Int, xs.flatMap ci = xs.map (GV.int .i64) := by
    intro xs
    induction xs with
    | nil => rfl
    | cons x xs ih => rw [List.flatMap_cons, ih]; rfl
  rw [e, e, List.map_set]
theorem PIn.setP {b : Nat} {p : ParserT} {H : Heap} {vP vT : GV} {RP RT : List Nat} (h : PIn b p H vP vT RP RT) (hn : 0 < p.2.1.length) (v : Int) :
    ∃ i, vP = .sl i 0 p.2.1.length p.2.1.length 1 ∧ kload1 H (.ptr i (p.2.1.length - 1) p.2.1.length) = some (.int .i64 (p.2.1[p.2.1.length - 1]?.getD 0)) ∧ ∃ H5, kstore 1 H (.ptr i (p.2.1.length - 1) p.2.1.length) (.int .i64 v) = some H5 ∧ Stp b ((p.1, setLast p.2.1 v, p.2.2.1, p.2.2.2), []) H H5 .nils RP RT := by
  obtain ⟨i, hv, hi, hR⟩ := ints_some h.ps hn
  have fl : (p.2.1.flatMap ci).length = p.2.1.length := by have := len_flat (mk := ci) (es := 1) (fun _ => rfl) p.2.1; omega
  have hil := (List.getElem?_eq_some_iff.1 hi).1
  have hk : p.2.1.length - 1 < p.2.1.length := by omega
  have f : Fr [i] H (H.set i ((setLast p.2.1 v).flatMap ci)) := .set (by simp)
  have ib : i ≠ b := fun e => h.bp (by rw [hR, ← e]; simp)
  refine ⟨i, hv, ?_, H.set i ((setLast p.2.1 v).flatMap ci), ?_, vP, vT, RP, RT, [], ⟨f.blk h.cell (by simp; omega), ?_, goodInt64S.keep h.tx f (fun k hk hk' => ?_), h.np, h.nt, h.dj, h.bp, h.bt⟩, no_act, List.nodup_nil, fun i hi => by (cases hi), fun i hi => ?_, f.sub fun k hk => ?_⟩
  · rw [kload1_at hi fl, ci_get, List.getElem?_eq_getElem hk]; rfl
  · rw [kstore_at hi fl (by omega) rfl rfl, ci_set]; rfl
  · have := rNewI (xs := setLast p.2.1 v) (H := H.set i ((setLast p.2.1 v).flatMap ci)) (b := i) (by rw [List.getElem?_set_self hil])
    unfold setLast at this ⊢
    rw [List.length_set] at this
    rw [hv, hR]; exact this
  · rw [List.mem_singleton] at hk'
    subst hk'
    exact h.dj k (by rw [hR]; simp) hk
  · rcases hi with hi | hi | hi
    · exact Or.inl hi
    · exact Or.inr (Or.inl hi)
    · cases hi
  · rw [List.mem_singleton] at hk
    rw [hk]; simp [hR]
theorem PIn.setM {b : Nat} {p : ParserT} {H : Heap} {vP vT : GV} {RP RT : List Nat} (h : PIn b p H vP vT RP RT) (v : Int) : ∃ H5, kstore 1 H (.ptr b 2 4) (.int .i64 v) = some H5 ∧ Stp b ((p.1, p.2.1, v, p.2.2.2), []) H H5 .nils RP RT := by
  have hbl := (List.getElem?_eq_some_iff.1 h.cell).1
  have f : Fr [b] H (H.set b [.int .i64 p.1, vP, .int .i64 v, vT]) := .set (by simp)
  refine ⟨_, kstore_at h.cell rfl (by omega) rfl rfl, vP, vT, RP, RT, [], ⟨List.getElem?_set_self hbl, goodInt64S.keep h.ps f (fun k hk hk' => ?_), goodInt64S.keep h.tx f (fun k hk hk' => ?_), h.np, h.nt, h.dj, h.bp, h.bt⟩, no_act, List.nodup_nil, fun i hi => by (cases hi), fun i hi => ?_, f.sub (by simp)⟩
  · rw [List.mem_singleton] at hk'; exact h.bp (hk' ▸ hk)
  · rw [List.mem_singleton] at hk'; exact h.bt (hk' ▸ hk)
  · rcases hi with hi | hi | hi
    · exact Or.inl hi
    · exact Or.inr (Or.inl hi)
    · cases hi
theorem PIn.setS {b : Nat} {p : ParserT} {H : Heap} {vP vT : GV} {RP RT : List Nat} (h : PIn b p H vP vT RP RT) (v : Int) : ∃ H5, kstore 1 H (.ptr b 0 4) (.int .i64 v) = some H5 ∧ Stp b ((v, p.2.1, p.2.2.1, p.2.2.2), []) H H5 .nils RP RT := by
  have hbl := (List.getElem?_eq_some_iff.1 h.cell).1
  have f : Fr [b] H (H.set b [.int .i64 v, vP, .int .i64 p.2.2.1, vT]) := .set (by simp)
  refine ⟨_, kstore_at h.cell rfl (by omega) rfl rfl, vP, vT, RP, RT, [], ⟨List.getElem?_set_self hbl, goodInt64S.keep h.ps f (fun k hk hk' => ?_), goodInt64S.keep h.tx f (fun k hk hk' => ?_), h.np, h.nt, h.dj, h.bp, h.bt⟩, no_act, List.nodup_nil, fun i hi => by (cases hi), fun i hi => ?_, f.sub (by simp)⟩
  · rw [List.mem_singleton] at hk'; exact h.bp (hk' ▸ hk)
  · rw [List.mem_singleton] at hk'; exact h.bt (hk' ▸ hk)
  · rcases hi with hi | hi | hi
    · exact Or.inl hi
    · exact Or.inr (Or.inl hi)
    · cases hi
end Go.Proofs.Ytlbnioapepelnaa.G

namespace Go.Proofs.Ytlbnioapepelnaa.G
open Go.RowKit

theorem impl_isControl_spec (r : Int) : NN fn.impl_isControl [.int .i64 r] = some (.bool (decide (r < 32) || decide (r = 127))) := by
  apply S.impl_isControl.gives (k := 0)
  have g1 : kbin .lss (.int .i64 r) (.int .i64 32) = some (.bool (decide (r < 32))) := kbin_lss
  have g2 : kbin .eql (.int .i64 r) (.int .i64 127) = some (.bool (decide (r = 127))) := kbin_eql
  generalize decide (r < 32) = a at *
  generalize decide (r = 127) = b at *
  cases a <;> simp [S.impl_isControl.run, g1, g2, -kbin_lss, -kbin_eql]
theorem title_op {b : Nat} {p : ParserT} {H : Heap} {vP vT : GV} {RP RT : List Nat} (h : PIn b p H vP vT RP RT) (hT : p.2.2.2.length ≤ 1048576) (r : Int) : ∃ v H', HH fn.impl_Parser_title [.ptr b 0 4, .int .i64 r] H = some (v, H') ∧ Stp b (titleM p r) H H' v RP RT := by
  have g7 : kbin .eql (.int .i64 r) (.int .i64 7) = some (.bool (decide (r = 7))) := kbin_eql
  have g27 : kbin .eql (.int .i64 r) (.int .i64 27) = some (.bool (decide (r = 27))) := kbin_eql
  unfold titleM
  by_cases h7 : r = 7
  · rw [if_pos h7]
    rw [decide_eq_true h7] at g7
    obtain ⟨v, H', a1, a2⟩ := ended_op h 92
    exact ⟨v, H', S.impl_Parser_title.gives (k := 0) (by simp [S.impl_Parser_title.run, g7, a1, -kbin_eql]), a2⟩
  rw [if_neg h7]
  rw [decide_eq_false h7] at g7
  by_cases h27 : r = 27
  · rw [if_pos h27]
    rw [decide_eq_true h27] at g27
    obtain ⟨H', a1, a2⟩ := h.setS 5
    exact ⟨.nils, H', S.impl_Parser_title.gives (k := 0) (by simp [S.impl_Parser_title.run, g7, g27, knil_ptr, a1, -kbin_eql, -kstore_ptr]), a2⟩
  rw [if_neg h27]
  rw [decide_eq_false h27] at g27
  have l3 := kload1_at (o := 3) (tot := 4) h.cell rfl
  simp only [List.getElem?_cons_succ, List.getElem?_cons_zero] at l3
  have ln := RSl.len h.tx
  have g40 : kbin .lss (.int .i64 (p.2.2.2.length : Int)) (.int .i64 40) = some (.bool (decide (p.2.2.2.length < 40))) := by rw [kbin_lss]; congr 2; rw [Bool.eq_iff_iff]; simp; omega
  by_cases h40 : p.2.2.2.length < 40
  · rw [if_pos h40]
    rw [decide_eq_true h40] at g40
    obtain ⟨v', H4, H5, a1, a2, a3⟩ := h.pushT (by omega) r
    exact ⟨.nils, H5, S.impl_Parser_title.gives (k := 0) (by simp [S.impl_Parser_title.run, g7, g27, g40, knil_ptr, l3, ln, gfill, zeros, kbs_at, a1, a2, -kbin_eql, -kbin_lss, -kload1_ptr, -kstore_ptr]), a3⟩
  · rw [if_neg h40]
    rw [decide_eq_false h40] at g40
    exact ⟨.nils, H, S.impl_Parser_title.gives (k := 0) (by simp [S.impl_Parser_title.run, g7, g27, g40, knil_ptr, l3, ln, -kbin_eql, -kbin_lss, -kload1_ptr, -kstore_ptr]), .same h⟩
theorem escaped_op {b : Nat} {p : ParserT} {H : Heap} {vP vT : GV} {RP RT : List Nat} (h : PIn b p H vP vT RP RT) (r : Int) : ∃ v H', HH fn.impl_Parser_escaped [.ptr b 0 4, .int .i64 r] H = some (v, H') ∧ Stp b (escM r) H H' v RP RT := by
  have g1 : kbin .eql (.int .i64 r) (.int .i64 91) = some (.bool (decide (r = 91))) := kbin_eql
  have g2 : kbin .eql (.int .i64 r) (.int .i64 93) = some (.bool (decide (r = 93))) := kbin_eql
  have g3 := k_in r 48 126
  unfold escM
  by_cases h1 : r = 91
  · rw [if_pos h1]
    rw [decide_eq_true h1] at g1
    have a1 := become_op h.cell rfl 3
    exact ⟨.nils, _, S.impl_Parser_escaped.gives (k := 0) (by simp [S.impl_Parser_escaped.run, g1, a1, -kbin_eql]), Stp.fresh h 3⟩
  rw [if_neg h1]
  rw [decide_eq_false h1] at g1
  by_cases h2 : r = 93
  · rw [if_pos h2]
    rw [decide_eq_true h2] at g2
    have a1 := become_op h.cell rfl 4
    exact ⟨.nils, _, S.impl_Parser_escaped.gives (k := 0) (by simp [S.impl_Parser_escaped.run, g1, g2, a1, -kbin_eql]), Stp.fresh h 4⟩
  rw [if_neg h2]
  rw [decide_eq_false h2] at g2
  have a1 := become_op h.cell rfl 1
  cases h3 : inB r 48 126
  · rw [h3] at g3
    exact ⟨.nils, _, S.impl_Parser_escaped.gives (k := 0) (by simp [S.impl_Parser_escaped.run, g1, g2, g3, a1, -kN_eq, -kbin_eql]), Stp.fresh h 1⟩
  · rw [h3] at g3
    refine ⟨.sl (H.set b [.int .i64 1, .nils, .int .i64 0, .nils]).length 0 1 1 5, _, S.impl_Parser_escaped.gives (k := 0) ?_, Stp.then (Stp.fresh h 1) fun vP vT RP' RT' h' => Stp.emit h' 3 r⟩
    obtain ⟨H1, hH1⟩ : ∃ H1, H.set b [.int .i64 1, .nils, .int .i64 0, .nils] = H1 := ⟨_, rfl⟩
    rw [hH1] at a1 ⊢
    simp [S.impl_Parser_escaped.run, g1, g2, g3, a1, gfill, zeros, kbs_at, -kN_eq, -kbin_eql]
theorem PIn.nzP {b : Nat} {p : ParserT} {H : Heap} {vP vT : GV} {RP RT : List Nat} (h : PIn b p H vP vT RP RT) (h0 : p.2.1.length = 0) :
    ∃ v' H4 H5, kapp [.int .i64 0] 1 8 vP (.sl H.length 0 1 1 1) (H ++ [[.int .i64 0]]) = some (v', H4) ∧ kstore 1 H4 (.ptr b 1 4) v' = some H5 ∧ Stp b ((p.1, nz p.2.1, p.2.2.1, p.2.2.2), []) H H5 .nils RP RT := by
  obtain ⟨v', H4, H5, a1, a2, a3⟩ := h.pushP (by omega) 0
  refine ⟨v', H4, H5, a1, a2, ?_⟩
  have e : nz p.2.1 = p.2.1 ++ [0] := by unfold nz; rw [if_pos h0, List.eq_nil_of_length_eq_zero h0]; rfl
  rw [e]; exact a3
theorem more_op {b : Nat} {p : ParserT} {H : Heap} {vP vT : GV} {RP RT : List Nat} (h : PIn b p H vP vT RP RT) (hp : p.2.1.length ≤ 16 ∧ ∀ n ∈ p.2.1, 0 ≤ n ∧ n ≤ 9999) (r : Int) : ∃ v H', HH fn.impl_Parser_more [.ptr b 0 4, .int .i64 r] H = some (v, H') ∧ Stp b (moreM p r) H H' v RP RT := by
  have l1 := kload1_at (o := 1) (tot := 4) h.cell rfl
  have l2 := kload1_at (o := 2) (tot := 4) h.cell rfl
  simp only [List.getElem?_cons_succ, List.getElem?_cons_zero] at l1 l2
  have ln := RSl.len h.ps
  have g1 : kbin .eql (.int .i64 r) (.int .i64 63) = some (.bool (decide (r = 63))) := kbin_eql
  have g2 := klen0 (n := p.2.1.length)
  have g3 : kbin .eql (.int .i64 p.2.2.1) (.int .i64 0) = some (.bool (decide (p.2.2.1 = 0))) := kbin_eql
  have g4 := k_in r 48 57
  have g5 : kbin .eql (.int .i64 r) (.int .i64 59) = some (.bool (decide (r = 59))) := kbin_eql
  have g6 := k_in r 64 126
  unfold moreM
  by_cases hc : r = 63 ∧ p.2.1.length = 0 ∧ p.2.2.1 = 0
  · rw [if_pos hc]
    obtain ⟨c1, c2, c3⟩ := hc
    rw [decide_eq_true c1] at g1
    rw [decide_eq_true c2] at g2
    rw [decide_eq_true c3] at g3
    obtain ⟨H', a1, a2⟩ := h.setM 63
    exact ⟨.nils, H', S.impl_Parser_more.gives (k := 0) (by simp [S.impl_Parser_more.run, g1, g2, g3, knil_ptr, l1, l2, ln, a1, -kbin_eql, -kload1_ptr, -kstore_ptr]), a2⟩
  rw [if_neg hc]
  -- what stands ahead is not so
  have head : ∀ {Q : Type} (G : GX → GV → GV → GV → Heap → Option Q), S.impl_Parser_more.n8 0 G (.ptr b 0 4) (.int .i64 r) .nils H = S.impl_Parser_more.n11 0 G (.ptr b 0 4) (.int .i64 r) .nils H := by
    intro Q G
    by_cases c1 : r = 63
    · rw [decide_eq_true c1] at g1
      by_cases c2 : p.2.1.length = 0
      · have c3 : ¬ p.2.2.1 = 0 := fun c3 => hc ⟨c1, c2, c3⟩
        rw [decide_eq_true c2] at g2
        rw [decide_eq_false c3] at g3
        simp [g1, g2, g3, knil_ptr, l1, l2, ln, -kbin_eql, -kload1_ptr, -kstore_ptr, -S.impl_Parser_more.n11]
      · rw [decide_eq_false c2] at g2
        simp [g1, g2, knil_ptr, l1, ln, -kbin_eql, -kload1_ptr, -kstore_ptr, -S.impl_Parser_more.n11]
    · rw [decide_eq_false c1] at g1
      simp [g1, -kbin_eql, -kload1_ptr, -kstore_ptr, -S.impl_Parser_more.n11]
  have run : ∀ {v : GV} {H' : Heap}, S.impl_Parser_more.n11 0 (fun x v0 v1 v4 h => kb 0 x fun x => kx x (S.impl_Parser_more.n2 0 (fun x v4 h => kend x (finH v4 h)) v0 v1 v4 h) (kend x (finH v4 h))) (.ptr b 0 4) (.int .i64 r) .nils H = some (v, H') → HH fn.impl_Parser_more [.ptr b 0 4, .int .i64 r] H = some (v, H') := by
    intro v H' e
    apply S.impl_Parser_more.gives (k := 0)
    unfold S.impl_Parser_more.run S.impl_Parser_more.n0 S.impl_Parser_more.n1 S.impl_Parser_more.n7
    rw [head]
    exact e
  by_cases hd : inB r 48 57 = true
  · rw [if_pos hd]
    rw [hd] at g4
    rw [inB_iff] at hd
    have dig : ∀ {H1 : Heap} {wP wT : GV} {SP ST : List Nat}, PIn b (p.1, nz p.2.1, p.2.2.1, p.2.2.2) H1 wP wT SP ST → ∃ H2, (∀ {Q : Type} (G : GX → GV → GV → GV → Heap → Option Q), S.impl_Parser_more.n14 0 G (.ptr b 0 4) (.int .i64 r) .nils H1 = G .ret (.ptr b 0 4) (.int .i64 r) .nils H2) ∧ Stp b (digM p r, []) H1 H2 .nils SP ST := by
      intro H1 wP wT SP ST h1
      have lz := nz_len p.2.1
      have lb := nz_last hp.2
      obtain ⟨i, e1, e2, H2, e3, e4⟩ := h1.setP lz.1 (min ((nz p.2.1)[(nz p.2.1).length - 1]?.getD 0 * 10 + r - 48) 9999)
      have m1 := kload1_at (o := 1) (tot := 4) h1.cell rfl
      simp only [List.getElem?_cons_succ, List.getElem?_cons_zero] at m1 e2 e3
      have mn := RSl.len h1.ps
      simp only at mn e1
      obtain ⟨n, hn⟩ : ∃ n, (nz p.2.1).length = n := ⟨_, rfl⟩
      obtain ⟨x, hx⟩ : ∃ x, (nz p.2.1)[(nz p.2.1).length - 1]?.getD 0 = x := ⟨_, rfl⟩
      rw [hx] at e2 e3 lb
      rw [hn] at e1 e2 e3 mn lz
      have ks : kbin .sub (.int .i64 (n : Int)) (.int .i64 1) = some (.int .i64 ((n - 1 : Nat) : Int)) := by
        rw [kbin_sub, wrap_id (by omega) (by omega)]; congr 2; omega
      have ki : kia 1 wP (.int .i64 ((n - 1 : Nat) : Int)) = some (.ptr i (n - 1) n) := by rw [e1]; exact kia_at (by omega) (by omega) (by omega)
      have k1 : kbin .mul (.int .i64 x) (.int .i64 10) = some (.int .i64 (x * 10)) := by rw [kbin_mul, wrap_id (by omega) (by omega)]
      have k2 : kbin .add (.int .i64 (x * 10)) (.int .i64 r) = some (.int .i64 (x * 10 + r)) := by rw [kbin_add, wrap_id (by omega) (by omega)]
      have k3 : kbin .sub (.int .i64 (x * 10 + r)) (.int .i64 48) = some (.int .i64 (x * 10 + r - 48)) := by rw [kbin_sub, wrap_id (by omega) (by omega)]
      have k4 : gmin (.int .i64 (x * 10 + r - 48)) (.int .i64 9999) = some (.int .i64 (min (x * 10 + r - 48) 9999)) := by
        rw [gmin_int]; congr 2; rw [Int.min_def]; split <;> split <;> omega
      refine ⟨H2, fun G => ?_, ?_⟩
      · simp [knil_ptr, m1, mn, ks, ki, e2, k1, k2, k3, k4, e3, -kbin_sub, -kbin_mul, -kbin_add, -gmin_int, -kload1_ptr, -kstore_ptr]
      · unfold digM
        exact e4
    by_cases h0 : p.2.1.length = 0
    · rw [decide_eq_true h0] at g2
      obtain ⟨v', H4, H5, a1, a2, a3⟩ := h.nzP h0
      obtain ⟨wP, wT, SP, ST, SA, b1, _⟩ := id a3
      obtain ⟨H2, d1, d2⟩ := dig b1
      refine ⟨.nils, H2, run ?_, Stp.then a3 fun vP vT RP' RT' h' => ?_⟩
      · simp [g4, g2, knil_ptr, l1, ln, gfill, zeros, kbs_at, a1, a2, d1, -kN_eq, -kbin_eql, -kload1_ptr, -kstore_ptr, -S.impl_Parser_more.n14, -S.impl_Parser_more.n2]
      · obtain ⟨H2', d1', d2'⟩ := dig h'
        have e := (d1 (Q := Heap) fun _ _ _ _ h => some h).symm.trans (d1' (Q := Heap) fun _ _ _ _ h => some h)
        obtain rfl : H2 = H2' := Option.some.inj e
        exact d2'
    · rw [decide_eq_false h0] at g2
      have e : nz p.2.1 = p.2.1 := by unfold nz; rw [if_neg h0]
      obtain ⟨H2, d1, d2⟩ := dig (by rw [e]; exact h)
      refine ⟨.nils, H2, run ?_, d2⟩
      simp [g4, g2, knil_ptr, l1, ln, d1, -kN_eq, -kbin_eql, -kload1_ptr, -kstore_ptr, -S.impl_Parser_more.n14, -S.impl_Parser_more.n2]
  rw [if_neg hd]
  simp only [Bool.not_eq_true] at hd
  rw [hd] at g4
  by_cases h59 : r = 59
  · rw [if_pos h59]
    rw [decide_eq_true h59] at g5
    have sep : ∀ {H1 : Heap} {wP wT : GV} {SP ST : List Nat}, PIn b (p.1, nz p.2.1, p.2.2.1, p.2.2.2) H1 wP wT SP ST → ∃ H2, (∀ {Q : Type} (G : GX → GV → GV → GV → Heap → Option Q), S.impl_Parser_more.n19 0 G (.ptr b 0 4) (.int .i64 r) .nils H1 = G .ret (.ptr b 0 4) (.int .i64 r) .nils H2) ∧ Stp b (sepM p, []) H1 H2 .nils SP ST := by
      intro H1 wP wT SP ST h1
      have lz := nz_len p.2.1
      have m1 := kload1_at (o := 1) (tot := 4) h1.cell rfl
      simp only [List.getElem?_cons_succ, List.getElem?_cons_zero] at m1
      have mn := RSl.len h1.ps
      have g16 : kbin .lss (.int .i64 ((nz p.2.1).length : Int)) (.int .i64 16) = some (.bool (decide ((nz p.2.1).length < 16))) := by rw [kbin_lss]; congr 2; rw [Bool.eq_iff_iff]; simp; omega
      unfold sepM
      by_cases h16 : (nz p.2.1).length < 16
      · rw [decide_eq_true h16] at g16
        obtain ⟨v', H4, H5, a1, a2, a3⟩ := h1.pushP (by simp only; omega) 0
        rw [if_pos h16]
        refine ⟨H5, fun G => ?_, a3⟩
        simp [knil_ptr, m1, mn, g16, gfill, zeros, kbs_at, a1, a2, -kbin_lss, -kload1_ptr, -kstore_ptr]
      · rw [decide_eq_false h16] at g16
        rw [if_neg h16]
        refine ⟨H1, fun G => ?_, .same h1⟩
        simp [knil_ptr, m1, mn, g16, -kbin_lss, -kload1_ptr, -kstore_ptr]
    by_cases h0 : p.2.1.length = 0
    · rw [decide_eq_true h0] at g2
      obtain ⟨v', H4, H5, a1, a2, a3⟩ := h.nzP h0
      obtain ⟨wP, wT, SP, ST, SA, b1, _⟩ := id a3
      obtain ⟨H2, d1, d2⟩ := sep b1
      refine ⟨.nils, H2, run ?_, Stp.then a3 fun vP vT RP' RT' h' => ?_⟩
      · simp [g4, g5, g2, knil_ptr, l1, ln, gfill, zeros, kbs_at, a1, a2, d1, -kN_eq, -kbin_eql, -kload1_ptr, -kstore_ptr, -S.impl_Parser_more.n19, -S.impl_Parser_more.n2]
      · obtain ⟨H2', d1', d2'⟩ := sep h'
        have e := (d1 (Q := Heap) fun _ _ _ _ h => some h).symm.trans (d1' (Q := Heap) fun _ _ _ _ h => some h)
        obtain rfl : H2 = H2' := Option.some.inj e
        exact d2'
    · rw [decide_eq_false h0] at g2
      have e : nz p.2.1 = p.2.1 := by unfold nz; rw [if_neg h0]
      obtain ⟨H2, d1, d2⟩ := sep (by rw [e]; exact h)
      refine ⟨.nils, H2, run ?_, d2⟩
      simp [g4, g5, g2, knil_ptr, l1, ln, d1, -kN_eq, -kbin_eql, -kload1_ptr, -kstore_ptr, -S.impl_Parser_more.n19, -S.impl_Parser_more.n2]
  rw [if_neg h59]
  rw [decide_eq_false h59] at g5
  cases h64 : inB r 64 126
  · rw [h64] at g6
    have a1 := become_op h.cell rfl 1
    refine ⟨.emp, H.set b [.int .i64 1, .nils, .int .i64 0, .nils], run ?_, ?_⟩
    rotate_left
    · have := Stp.fresh h 1
      obtain ⟨a, b', c, d, e, f1, f2, f3⟩ := this
      exact ⟨a, b', c, d, [], f1, by simpa using no_act', List.nodup_nil, fun i hi => (by cases hi), fun i hi => f3.2.2.1 i (hi.elim Or.inl fun h => Or.inr (h.elim Or.inl fun h => by cases h)), f3.2.2.2⟩
    · simp [g4, g5, g6, a1, -kN_eq, -kbin_eql, -kload1_ptr, -kstore_ptr]
  · rw [h64] at g6
    have vc := cells1 h.ps
    obtain ⟨H1, hH1⟩ : ∃ H1, H ++ [actC 4 r vP p.2.2.1 .nils] = H1 := ⟨_, rfl⟩
    have ka : kapp actZ 5 72 .emp (.sl H.length 0 1 1 5) H1 = some (.sl H1.length 0 1 1 5, H1 ++ [actC 4 r vP p.2.2.1 .nils]) := by
      rw [← hH1]
      unfold kapp
      have hg : gcells (H ++ [actC 4 r vP p.2.2.1 .nils]) 5 (.sl H.length 0 1 1 5) = some (1, actC 4 r vP p.2.2.1 .nils, [H.length]) := by
        unfold gcells; simp
      rw [hg]
      simp only [Option.bind_some]
      rw [if_pos ⟨by simp [vc.2], rfl, by simp [maxLen], by simp [roomMax]⟩]
      rfl
    have hl1 : H1.length = H.length + 1 := by rw [← hH1]; simp
    obtain ⟨H2, hH2⟩ : ∃ H2, H1 ++ [actC 4 r vP p.2.2.1 .nils] = H2 := ⟨_, rfl⟩
    rw [hH2] at ka
    have f2 : Fr [] H H2 := by rw [← hH2, ← hH1]; exact Fr.app.trans .app
    have C2 := f2.blk h.cell no_nil
    have B2 : H2[H1.length]? = some (actC 4 r vP p.2.2.1 .nils) := by rw [← hH2]; simp
    have t2 := goodInt64S.keep h.ps f2 (fun _ _ => no_nil)
    have hb3 := become_op C2 rfl 1
    have f3 : Fr [b] H2 (H2.set b [.int .i64 1, .nils, .int .i64 0, .nils]) := .set (by simp)
    have t3 := goodInt64S.keep t2 f3 (fun i hi h' => by rw [List.mem_singleton] at h'; exact h.bp (h' ▸ hi))
    have hbl := (List.getElem?_eq_some_iff.1 h.cell).1
    have B3 := f3.blk B2 (by simp; omega)
    have hm := goodInt64S.mem h.ps
    refine ⟨.sl H1.length 0 1 1 5, H2.set b [.int .i64 1, .nils, .int .i64 0, .nils], run ?_, .nils, .nils, [], [], H1.length :: (RP ++ []), become_in C2 1, act_one B3 (act_rel t3 no_ints), ?_, fun i hi => ⟨no_nil, no_nil, fun e => ?_⟩, fun i hi => ?_, (f2.sub (fun i hi => by cases hi)).trans (f3.sub (by simp))⟩
    · simp [g4, g5, g6, knil_ptr, l1, l2, gfill, zeros, vc.1, vc.2, kbs_at, hH1, ka, hb3, -kN_eq, -kload1_ptr, -kstore_ptr, -kbin_eql]
    · rw [List.append_nil, List.nodup_cons]
      exact ⟨fun h' => by have := hm _ h'; omega, h.np⟩
    · subst e
      rcases List.mem_cons.1 hi with rfl | hi
      · omega
      · exact h.bp (by simpa using hi)
    · rcases hi with hi | hi | hi
      · cases hi
      · cases hi
      · rcases List.mem_cons.1 hi with rfl | hi
        · exact Or.inr (Or.inr (by omega))
        · exact Or.inl (by simpa using hi)
theorem step_op {b : Nat} {p : ParserT} {H : Heap} {vP vT : GV} {RP RT : List Nat} (h : PIn b p H vP vT RP RT) (hp : parserB p = true) (r : Int) : ∃ v H', HH fn.impl_Parser_step [.ptr b 0 4, .int .i64 r] H = some (v, H') ∧ Stp b (stepM p r) H H' v RP RT := by
  obtain ⟨p1, p2, p3, p4, p5, p6⟩ := parserB_iff.1 hp
  have l0 := kload1_at (o := 0) (tot := 4) h.cell rfl
  simp only [List.getElem?_cons_zero] at l0
  have g4 : kbin .eql (.int .i64 p.1) (.int .i64 4) = some (.bool (decide (p.1 = 4))) := kbin_eql
  have g5 : kbin .eql (.int .i64 p.1) (.int .i64 5) = some (.bool (decide (p.1 = 5))) := kbin_eql
  have g2 : kbin .eql (.int .i64 p.1) (.int .i64 2) = some (.bool (decide (p.1 = 2))) := kbin_eql
  have g3 : kbin .eql (.int .i64 p.1) (.int .i64 3) = some (.bool (decide (p.1 = 3))) := kbin_eql
  have r27 : kbin .eql (.int .i64 r) (.int .i64 27) = some (.bool (decide (r = 27))) := kbin_eql
  have r24 : kbin .eql (.int .i64 r) (.int .i64 24) = some (.bool (decide (r = 24))) := kbin_eql
  have r26 : kbin .eql (.int .i64 r) (.int .i64 26) = some (.bool (decide (r = 26))) := kbin_eql
  have rc := fun H : Heap => kN_at (H := H) (args := [.int .i64 r]) (xs := [.int .i64 r]) (by simp) (impl_isControl_spec r)
  have rw' := k_width r
  have gw : kbin .gtr (.int .i64 (widthM r)) (.int .i64 0) = some (.bool (decide (0 < widthM r))) := kbin_gtr
  unfold stepM
  by_cases c4 : p.1 = 4
  · rw [if_pos c4]
    rw [decide_eq_true c4] at g4
    obtain ⟨v, H', a1, a2⟩ := title_op h (by omega) r
    exact ⟨v, H', S.impl_Parser_step.gives (k := 0) (by simp [S.impl_Parser_step.run, knil_ptr, l0, g4, a1, -kbin_eql, -kload1_ptr]), a2⟩
  rw [if_neg c4]
  rw [decide_eq_false c4] at g4
  by_cases c5 : p.1 = 5
  · rw [if_pos c5]
    rw [decide_eq_true c5] at g5
    obtain ⟨v, H', a1, a2⟩ := ended_op h r
    exact ⟨v, H', S.impl_Parser_step.gives (k := 0) (by simp [S.impl_Parser_step.run, knil_ptr, l0, g4, g5, a1, -kbin_eql, -kload1_ptr]), a2⟩
  rw [if_neg c5]
  rw [decide_eq_false c5] at g5
  by_cases c27 : r = 27
  · rw [if_pos c27]
    rw [decide_eq_true c27] at r27
    have a1 := become_op h.cell rfl 2
    exact ⟨.nils, _, S.impl_Parser_step.gives (k := 0) (by simp [S.impl_Parser_step.run, knil_ptr, l0, g4, g5, r27, a1, -kbin_eql, -kload1_ptr]), Stp.fresh h 2⟩
  rw [if_neg c27]
  rw [decide_eq_false c27] at r27
  by_cases c24 : r = 24 ∨ r = 26
  · rw [if_pos c24]
    have a1 := become_op h.cell rfl 1
    refine ⟨.nils, _, S.impl_Parser_step.gives (k := 0) ?_, Stp.fresh h 1⟩
    by_cases c : r = 24
    · rw [decide_eq_true c] at r24
      simp [S.impl_Parser_step.run, knil_ptr, l0, g4, g5, r27, r24, a1, -kbin_eql, -kload1_ptr]
    · have c26 := c24.resolve_left c
      rw [decide_eq_false c] at r24
      rw [decide_eq_true c26] at r26
      simp [S.impl_Parser_step.run, knil_ptr, l0, g4, g5, r27, r24, r26, a1, -kbin_eql, -kload1_ptr]
  rw [if_neg c24]
  rw [decide_eq_false (fun c => c24 (Or.inl c))] at r24
  rw [decide_eq_false (fun c => c24 (Or.inr c))] at r26
  have ec : (decide (r < 32) || decide (r = 127)) = decide (r < 32 ∨ r = 127) := by rw [Bool.eq_iff_iff]; simp
  rw [ec] at rc
  by_cases cc : r < 32 ∨ r = 127
  · rw [if_pos cc]
    rw [decide_eq_true cc] at rc
    refine ⟨_, _, S.impl_Parser_step.gives (k := 0) ?_, Stp.emit h 2 r⟩
    simp [S.impl_Parser_step.run, knil_ptr, l0, g4, g5, r27, r24, r26, rc, gfill, zeros, kbs_at, -kN_eq, -kbin_eql, -kload1_ptr]
  rw [if_neg cc]
  rw [decide_eq_false cc] at rc
  by_cases c2 : p.1 = 2
  · rw [if_pos c2]
    rw [decide_eq_true c2] at g2
    obtain ⟨v, H', a1, a2⟩ := escaped_op h r
    exact ⟨v, H', S.impl_Parser_step.gives (k := 0) (by simp [S.impl_Parser_step.run, knil_ptr, l0, g4, g5, r27, r24, r26, rc, g2, a1, -kN_eq, -kbin_eql, -kload1_ptr]), a2⟩
  rw [if_neg c2]
  rw [decide_eq_false c2] at g2
  by_cases c3 : p.1 = 3
  · rw [if_pos c3]
    rw [decide_eq_true c3] at g3
    obtain ⟨v, H', a1, a2⟩ := more_op h p2 r
    exact ⟨v, H', S.impl_Parser_step.gives (k := 0) (by simp [S.impl_Parser_step.run, knil_ptr, l0, g4, g5, r27, r24, r26, rc, g2, g3, a1, -kN_eq, -kbin_eql, -kload1_ptr]), a2⟩
  rw [if_neg c3]
  rw [decide_eq_false c3] at g3
  by_cases cw : 0 < widthM r
  · rw [if_pos cw]
    rw [decide_eq_true cw] at gw
    refine ⟨_, _, S.impl_Parser_step.gives (k := 0) ?_, Stp.emit h 1 r⟩
    simp [S.impl_Parser_step.run, knil_ptr, l0, g4, g5, r27, r24, r26, rc, g2, g3, rw', gw, gfill, zeros, kbs_at, -kN_eq, -kbin_eql, -kbin_gtr, -kload1_ptr]
  · rw [if_neg cw]
    rw [decide_eq_false cw] at gw
    refine ⟨.nils, H, S.impl_Parser_step.gives (k := 0) ?_, .same h⟩
    simp [S.impl_Parser_step.run, knil_ptr, l0, g4, g5, r27, r24, r26, rc, g2, g3, rw', gw, -kN_eq, -kbin_eql, -kbin_gtr, -kload1_ptr]
end Go.Proofs.Ytlbnioapepelnaa.G

namespace Go.Proofs.Ytlbnioapepelnaa.G
open Go.RowKit
theorem ownL1 {f : Nat → GV → Option (GV × Vis × List (List GV))} {b : Nat} {g : GV} {c' : List GV} {v : Vis} {bl : List (List GV)} (h : ownL f b [g] = some (c', v, bl)) : ∃ g', c' = [g'] ∧ f b g = some (g', v, bl) := by
  unfold ownL at h
  obtain ⟨r, h1, h2⟩ := obsi.1 h
  simp only [ownL, Option.bind_some, Option.some.injEq, Prod.mk.injEq, List.append_nil] at h2
  obtain ⟨rfl, rfl, rfl⟩ := h2
  exact ⟨r.1, rfl, h1⟩
theorem Good.finP {α β : Type} {es d d' : Nat} {mk : α → List GV} {mk' : β → List GV} {E : Rel α} {F : Rel β} (hE : Good es d mk E) (hF : Good 1 d' mk' F) (hd : d ≤ 7) (hd' : d' ≤ 8) {h : Heap} {c : List GV} {v : GV} {x : α} {y : β} {R S : List Nat} (he : E h c x R) (hf : F h [v] y S) (nd : (R ++ S).Nodup) (b : Nat) :
    ∃ c' v' bl n, finO b (.tup [.agg c, v]) h = some (.tup [.agg c', v'], bl) ∧ n ≤ bl.length ∧ ∀ H T, H.length = b → E (H ++ bl ++ T) c' x (List.range' b n) ∧ F (H ++ bl ++ T) [v'] y (List.range' (b + n) (bl.length - n)) := by
  obtain ⟨c', vis, bl, a1, a2, a3⟩ := hE.own he (7 - d) b
  obtain ⟨c'', vis', bl', b1, b2, b3⟩ := hF.own hf (8 - d') (b + bl.length)
  rw [show 7 - d + d = 7 by omega] at a1
  rw [show 8 - d' + d' = 8 by omega] at b1
  obtain ⟨v', rfl, b4⟩ := ownL1 b1
  refine ⟨c', v', bl ++ bl', bl.length, ?_, by simp, fun H T hH => ⟨?_, ?_⟩⟩
  · unfold finO ownOk
    have e1 : Go.Proofs.Ytlbnioapepelnaa.G.own 8 h b (.agg c) = some (.agg c', vis, bl) := by
      show (ownL (Go.Proofs.Ytlbnioapepelnaa.G.own 7 h) b c).bind _ = _
      rw [a1]; rfl
    have e : Go.Proofs.Ytlbnioapepelnaa.G.own 9 h b (.tup [.agg c, v]) = some (.tup [.agg c', v'], vis ++ vis', bl ++ bl') := by
      show (ownL (Go.Proofs.Ytlbnioapepelnaa.G.own 8 h) b [.agg c, v]).bind _ = _
      have := ownL_app (f := Go.Proofs.Ytlbnioapepelnaa.G.own 8 h) (l1 := [.agg c]) (l2 := [v]) (b := b) (c1 := [.agg c']) (v1 := vis) (b1 := bl) (by unfold ownL; rw [e1]; simp [ownL]) b1
      rw [show ([.agg c, v] : List GV) = [.agg c] ++ [v] from rfl, this]
      rfl
    simp only [e, Option.bind_some, List.map_append, a2, b2, nodupB_of nd, cond_true]
  · have := a3 H (bl' ++ T) hH
    simpa only [List.append_assoc] using this
  · have := b3 (H ++ bl) T (by rw [List.length_append, hH])
    rw [List.length_append, Nat.add_sub_cancel_left]
    simpa only [List.append_assoc] using this
theorem fresh_pair {α β : Type} {es d d' : Nat} {mk : α → List GV} {mk' : β → List GV} {E : Rel α} {F : Rel β} (hE : Good es d mk E) (hF : Good 1 d' mk' F) {f : FuncId} {args xs : List GV} {H : Heap} {x : α} {y : β} (hb : bors H args = some xs)
    (he : ∃ c v bl n, OO f xs H.length = some (.tup [.agg c, v], bl) ∧ n ≤ bl.length ∧ ∀ H' T, H'.length = H.length → E (H' ++ bl ++ T) c x (List.range' H.length n) ∧ F (H' ++ bl ++ T) [v] y (List.range' (H.length + n) (bl.length - n))) :
    ∃ c v R S H', kF false HH f args H = some (.tup [.agg c, v], H') ∧ E H' c x R ∧ F H' [v] y S ∧ R.Nodup ∧ S.Nodup ∧ (∃ m, Bd R H.length m ∧ Bd S m H'.length ∧ H.length ≤ m ∧ m ≤ H'.length) ∧ Fr [] H H' ∧ H.length ≤ H'.length := by
  obtain ⟨c, v, bl, n, h1, hn, h2⟩ := he
  have h3 := h2 H [] rfl
  rw [List.append_nil] at h3
  refine ⟨c, v, _, _, H ++ bl, by rw [kF_OO, hb]; simp [h1], h3.1, h3.2, List.nodup_range', List.nodup_range', ⟨H.length + n, fun i hi => ?_, fun i hi => ?_, by omega, by simp; omega⟩, .app, by simp⟩
  · rw [List.mem_range'_1] at hi; omega
  · rw [List.mem_range'_1] at hi; simp; omega
end Go.Proofs.Ytlbnioapepelnaa.G

namespace Go.Proofs.Ytlbnioapepelnaa.G
open Go.RowKit
theorem clone_splitI : ksplit HH fn.slices_Clone_int64 = true := by
  have h1 : HH fn.slices_Clone_int64 [.nils] [] = some (.nils, []) := kω_of ((S.slices_Clone_int64.run_eq 0 .nils [] finH).trans (by kernel_rfl))
  have h2 : HH fn.slices_Clone_int64 [.fz true 0 1 []] [] = some (.emp, []) := kω_of ((S.slices_Clone_int64.run_eq 0 (.fz true 0 1 []) [] finH).trans (by kernel_rfl))
  unfold ksplit
  rw [h1, h2]
theorem slices_Clone_int64_spec (xs : List Int) (hm : xs.length ≤ 4194304) (b : Nat) (h0 : xs.length ≠ 0) : OO fn.slices_Clone_int64 [fzl true 1 ci xs] b = some (.sl b 0 xs.length xs.length 1, [xs.flatMap ci]) := by
  apply S.slices_Clone_int64.gives (k := 0)
  have hg : gbinop PP .eql 55 (.tmp 3) (.const (.slice none 0 0)) (fzl true 1 ci xs) .nils = some (.bool false) := by
    cases xs with
    | nil => exact absurd rfl h0
    | cons x xs => kernel_rfl
  simp [S.slices_Clone_int64.run, hg, kapp_emp (mk := ci) (es := 1) (b := 8) (z := [.int .i64 0]) (fun _ => rfl) (fun _ => rfl) rfl (by omega) hm, h0]
  have hl : (xs.flatMap ci).length = xs.length * 1 := len_flat (mk := ci) (es := 1) (fun _ => rfl) xs
  rw [finO_sl_pl (cs := xs.flatMap ci) (by simp) hl (Nat.le_refl _) (by rw [List.take_of_length_le (by omega)]; exact all_flat (fun _ => rfl) xs)]
  rw [List.take_of_length_le (by omega)]
theorem clone_relI (xs : List Int) (hm : xs.length ≤ 4194304) (H : Heap) : ∃ v H' R, kF true HH fn.slices_Clone_int64 [fzl true 1 ci xs] H = some (v, H') ∧ rInt64S H' [v] xs R ∧ R.Nodup ∧ (∀ i ∈ R, H.length ≤ i) ∧ Fr [] H H' := by
  have hb : bors H [fzl true 1 ci xs] = some [fzl true 1 ci xs] := by simp
  by_cases h0 : xs.length = 0
  · have : xs = [] := List.eq_nil_of_length_eq_zero h0
    subst this
    refine ⟨.emp, H, [], ?_, Or.inl ⟨rfl, rfl, Or.inl rfl⟩, List.nodup_nil, fun i hi => by (cases hi), .refl⟩
    unfold kF
    rw [hb]
    simp [emptyArg, mt, clone_splitI]
  · refine ⟨.sl H.length 0 xs.length xs.length 1, H ++ [xs.flatMap ci], [H.length], ?_, rNewI (by simp), by simp, fun i hi => by rw [List.mem_singleton] at hi; omega, .app⟩
    have he : emptyArg [fzl true 1 ci xs] = false := by
      cases xs with
      | nil => exact absurd rfl h0
      | cons x xs => rfl
    unfold kF
    rw [hb]
    simp only [Option.bind_some, he, Bool.and_false, cond_false]
    have := slices_Clone_int64_spec xs hm H.length h0
    have h2 : (HH fn.slices_Clone_int64 [fzl true 1 ci xs] []).bind (fun r => (ownOk r H.length).bind fun q => some (q.1, H ++ q.2)) = ((HH fn.slices_Clone_int64 [fzl true 1 ci xs] []).bind fun r => ownOk r H.length).bind fun q => some (q.1, H ++ q.2) := by rw [Option.bind_assoc]
    rw [h2]
    show (OO fn.slices_Clone_int64 [fzl true 1 ci xs] H.length).bind _ = _
    rw [this]
    rfl
theorem parser_rel {H : Heap} {s m : Int} {vP vT : GV} {ps tx : List Int} {RP RT : List Nat} (hp : rInt64S H [vP] ps RP) (ht : rInt64S H [vT] tx RT) : rParser H [.int .i64 s, vP, .int .i64 m, vT] (s, ps, m, tx) (RP ++ RT) :=
  ⟨[.int .i64 s], [vP, .int .i64 m, vT], [], RP ++ RT, rfl, rfl, ⟨rfl, rfl⟩, [vP], [.int .i64 m, vT], RP, RT, rfl, rfl, hp, [.int .i64 m], [vT], [], RT, rfl, rfl, ⟨rfl, rfl⟩, ht⟩
theorem impl_Parser_copied_spec (p : ParserT) (hm : okParser p) (b : Nat) : ∃ c bl, OO fn.impl_Parser_copied [.agg (mParser true p)] b = some (.agg c, bl) ∧ ∀ H T, H.length = b → rParser (H ++ bl ++ T) c p (List.range' b bl.length) := by
  obtain ⟨s, ps, m, tx⟩ := p
  obtain ⟨hp, ht⟩ : ps.length ≤ 1048576 ∧ tx.length ≤ 1048576 := hm
  obtain ⟨H0, hH0⟩ : ∃ H0 : Heap, [mParser true (s, ps, m, tx), [.int .i64 0, .nils, .int .i64 0, .nils]] = H0 := ⟨_, rfl⟩
  have A0 : H0[0]? = some [.int .i64 s, fzl true 1 ci ps, .int .i64 m, fzl true 1 ci tx] := by rw [← hH0]; rfl
  have Z0 : H0[1]? = some [.int .i64 0, .nils, .int .i64 0, .nils] := by rw [← hH0]; rfl
  have l0 : H0.length = 2 := by rw [← hH0]; rfl
  have q1 := kload1_at (o := 1) (tot := 4) A0 rfl
  obtain ⟨v5, H1, R5, c1, r1, n1, b1, f1⟩ := clone_relI ps (by omega) H0
  have A1 := f1.blk A0 no_nil
  have Z1 := f1.blk Z0 no_nil
  have q3 := kload1_at (o := 3) (tot := 4) A1 rfl
  have l1 := f1.1
  obtain ⟨v8, H2, R8, c2, r2, n2, b2, f2⟩ := clone_relI tx (by omega) H1
  have A2 := f2.blk A1 no_nil
  have Z2 := f2.blk Z1 no_nil
  have l2 := f2.1
  have r1' := goodInt64S.keep r1 f2 (fun _ _ => no_nil)
  have e5 := cells1 r1
  have e8 := cells1 r2
  have s1 := kstore_at (o := 1) (x := v5) A2 rfl (tot := 4) (by omega) e5.1 e5.2
  obtain ⟨H3, hH3⟩ : ∃ H3, H2.set 0 ([GV.int .i64 s, fzl true 1 ci ps, .int .i64 m, fzl true 1 ci tx].set 1 v5) = H3 := ⟨_, rfl⟩
  rw [hH3] at s1
  have hl2 := (List.getElem?_eq_some_iff.1 A2).1
  have A3 : H3[0]? = some [.int .i64 s, v5, .int .i64 m, fzl true 1 ci tx] := by rw [← hH3, List.getElem?_set_self hl2]; rfl
  have f3 : Fr [0] H2 H3 := by rw [← hH3]; exact .set (by simp)
  have s2 := kstore_at (o := 3) (x := v8) A3 rfl (tot := 4) (by omega) e8.1 e8.2
  obtain ⟨H4, hH4⟩ : ∃ H4, H3.set 0 ([GV.int .i64 s, v5, .int .i64 m, fzl true 1 ci tx].set 3 v8) = H4 := ⟨_, rfl⟩
  rw [hH4] at s2
  have hl3 := (List.getElem?_eq_some_iff.1 A3).1
  have A4 : H4[0]? = some [.int .i64 s, v5, .int .i64 m, v8] := by rw [← hH4, List.getElem?_set_self hl3]; rfl
  have f4 : Fr [0] H3 H4 := by rw [← hH4]; exact .set (by simp)
  have Z4 := (f3.trans f4).blk Z2 (by simp)
  have a1 := kloadA_at (n := 4) A4 rfl
  have s3 := kstoreA_at (n := 4) Z4 rfl (c' := [.int .i64 s, v5, .int .i64 m, v8]) rfl (by simp [e5.2, e8.2])
  obtain ⟨H5, hH5⟩ : ∃ H5, H4.set 1 [.int .i64 s, v5, .int .i64 m, v8] = H5 := ⟨_, rfl⟩
  rw [hH5] at s3
  have hl4 := (List.getElem?_eq_some_iff.1 Z4).1
  have A5 : H5[1]? = some [.int .i64 s, v5, .int .i64 m, v8] := by rw [← hH5, List.getElem?_set_self hl4]
  have f5 : Fr [1] H4 H5 := by rw [← hH5]; exact .set (by simp)
  have a2 := kloadA_at (n := 4) A5 rfl
  have fr : Fr [0, 1] H2 H5 := (f3.sub (by simp)).trans ((f4.sub (by simp)).trans (f5.sub (by simp)))
  have r15 := goodInt64S.keep r1' fr (fun i hi h => by have := b1 i hi; simp at h; omega)
  have r25 := goodInt64S.keep r2 fr (fun i hi h => by have := b2 i hi; simp at h; omega)
  have nd : (R5 ++ R8).Nodup := by
    rw [List.nodup_append]
    exact ⟨n1, n2, fun i hi k hk e => by have := goodInt64S.mem r1 i hi; have := b2 k hk; omega⟩
  obtain ⟨c, bl, o1, o2⟩ := goodParser.finS (by omega) (parser_rel (s := s) (m := m) r15 r25) nd b
  refine ⟨c, bl, S.impl_Parser_copied.gives (k := 0) ?_, o2⟩
  have hbox : ∀ {Q : Type} (K : GV → Heap → Option Q), kbox (.agg (mParser true (s, ps, m, tx))) [] K = K (.ptr 0 0 4) [mParser true (s, ps, m, tx)] := fun K => rfl
  have hal : ∀ {Q : Type} (K : GV → Heap → Option Q), kalloc [.int .i64 0, .nils, .int .i64 0, .nils] [mParser true (s, ps, m, tx)] K = K (.ptr 1 0 4) H0 := fun K => by rw [kalloc_eq, ← hH0]; rfl
  unfold S.impl_Parser_copied.run S.impl_Parser_copied.n0
  rw [hbox, hal]
  have z1 : ¬ (H1.length ≤ 0) := by omega
  have z0 : ¬ (H0 = []) := fun h => by rw [h] at l0; cases l0
  have zb : kborr H0 (fzl true 1 ci ps) = [] := by unfold kborr; simp
  simp only [List.getElem?_cons_succ, List.getElem?_cons_zero] at q1 q3
  simp [q1, c1, q3, c2, s1, s2, a1, s3, a2, o1, chk, meets, touches, z1, z0, zb, -kload1_ptr, -kstore_ptr, -kloadA_ptr]
/-! A list of runes. -/
theorem okParser_of_B {p : ParserT} (h : parserB p = true) : okParser p := by
  have := parserB_iff.1 h
  exact ⟨by show p.2.1.length ≤ 1048576; omega, by show p.2.2.2.length ≤ 1048576; omega⟩
def PLoop (b lo : Nat) (q : ParserT × List ActionT) (x : GV × Heap) : Prop :=
  ∃ vP vT RP RT RA, PIn b q.1 x.2 vP vT RP RT ∧ rActionS x.2 [x.1] q.2 RA ∧ RA.Nodup ∧ (∀ i ∈ RA, i ∉ RP ∧ i ∉ RT ∧ i ≠ b) ∧ ∀ i, i ∈ RP ∨ i ∈ RT ∨ i ∈ RA → lo ≤ i
theorem PLoop.step {b lo : Nat} {q : ParserT × List ActionT} {o : GV} {H : Heap} (h : PLoop b lo q (o, H)) (hp : parserB q.1 = true) (hl : lo ≤ H.length) (hn : q.2.length ≤ 4194000) (r : Int) (K : List (Nat × List GV)) (hK : ∀ k ∈ K, H[k.1]? = some k.2 ∧ k.1 < lo ∧ k.1 ≠ b) :
    ∃ v H1 o' H2, HH fn.impl_Parser_step [.ptr b 0 4, .int .i64 r] H = some (v, H1) ∧ kapp actZ 5 72 o v H1 = some (o', H2) ∧ PLoop b lo ((stepM q.1 r).1, q.2 ++ (stepM q.1 r).2) (o', H2) ∧ H.length ≤ H2.length ∧ ∀ k ∈ K, H2[k.1]? = some k.2 := by
  obtain ⟨vP, vT, RP, RT, RA, h1, h2, h3, h4, h5⟩ := h
  try simp only at h1 h2
  obtain ⟨v, H1, a1, wP, wT, SP, ST, SA, b1, b2, b3, b4, b5, b6⟩ := step_op h1 hp r
  have hm := goodActionS.mem h2
  have hmP := goodInt64S.mem b1.ps
  have hmT := goodInt64S.mem b1.tx
  have k2 := goodActionS.keep h2 b6 (fun i hi h' => by
    have := h4 i hi
    rcases List.mem_cons.1 h' with h' | h'
    · exact this.2.2 h'
    · rcases List.mem_append.1 h' with h' | h'
      · exact this.1 h'
      · exact this.2.1 h')
  have one := stepM_one q.1 r
  have dj : ∀ i ∈ SA, i ∉ RA := fun i hi h' => by
    rcases b5 i (Or.inr (Or.inr hi)) with h'' | h'' | h''
    · exact (h4 i h').1 h''
    · exact (h4 i h').2.1 h''
    · have := hm i h'; omega
  have rest : ∀ i, i ∈ SP ∨ i ∈ ST → i ∉ RA := fun i hi h' => by
    rcases b5 i (hi.elim Or.inl fun h => Or.inr (Or.inl h)) with h'' | h'' | h''
    · exact (h4 i h').1 h''
    · exact (h4 i h').2.1 h''
    · have := hm i h'; omega
  obtain ⟨o', H2, R', c1, c2, c3, c4, c5⟩ := app_sls (b := 72) goodAction (by omega) (z := actZ) rfl (by omega) k2 h3 b2 b3 dj (by omega)
  have hb1 := (List.getElem?_eq_some_iff.1 b1.cell).1
  refine ⟨v, H1, o', H2, a1, c1, ⟨wP, wT, SP, ST, R', b1.keep c5 (fun h' => (h4 b h').2.2 rfl) (fun i hi => rest i (Or.inl hi)) (fun i hi => rest i (Or.inr hi)), c2, c3, fun i hi => ?_, fun i hi => ?_⟩, Nat.le_trans b6.1 c5.1, fun k hk => ?_⟩
  · rcases c4 i hi with h' | h' | h'
    · exact ⟨fun h'' => rest i (Or.inl h'') h', fun h'' => rest i (Or.inr h'') h', (h4 i h').2.2⟩
    · exact b4 i h'
    · exact ⟨fun h'' => by have := hmP i h''; omega, fun h'' => by have := hmT i h''; omega, by omega⟩
  · have lo1 : ∀ i, i ∈ SP ∨ i ∈ ST ∨ i ∈ SA → lo ≤ i := fun i hi => by
      rcases b5 i hi with h' | h' | h'
      · exact h5 i (Or.inl h')
      · exact h5 i (Or.inr (Or.inl h'))
      · omega
    have := b6.1
    rcases hi with hi | hi | hi
    · exact lo1 i (Or.inl hi)
    · exact lo1 i (Or.inr (Or.inl hi))
    · rcases c4 i hi with h' | h' | h'
      · exact h5 i (Or.inr (Or.inr h'))
      · exact lo1 i (Or.inr (Or.inr h'))
      · omega
  · obtain ⟨e1, e2, e3⟩ := hK k hk
    have s1 := b6.blk e1 (fun h' => by
      rcases List.mem_cons.1 h' with h' | h'
      · exact e3 h'
      · rcases List.mem_append.1 h' with h' | h'
        · have := h5 _ (Or.inl h'); omega
        · have := h5 _ (Or.inr (Or.inl h')); omega)
    exact c5.blk s1 (fun h' => by have := h5 _ (Or.inr (Or.inr h')); omega)
theorem pairM_ok {p : ParserT} {l : List Int} : okParser (parsedM p l).1 := by
  unfold parsedM
  split
  · rename_i h
    rw [Bool.and_eq_true] at h
    exact okParser_of_B (runM_ok l h.1 h.2)
  · exact ⟨Nat.zero_le _, Nat.zero_le _⟩
theorem impl_parsed_spec (p : ParserT) (hm : okParser p) (l : List Int) (hl : l.length ≤ 1048576) (b : Nat) : ∃ c v bl n, OO fn.impl_parsed [.agg (mParser true p), fzl true 1 ci l] b = some (.tup [.agg c, v], bl) ∧ n ≤ bl.length ∧ ∀ H T, H.length = b → rParser (H ++ bl ++ T) c (parsedM p l).1 (List.range' b n) ∧ rActionS (H ++ bl ++ T) [v] (parsedM p l).2 (List.range' (b + n) (bl.length - n)) := by
  have hML : (mParser true p).length = 4 := rfl
  have bM : ∀ (H : Heap) (gs zs : List GV), bors H gs = some zs → bors H (.agg (mParser true p) :: gs) = some (.agg (mParser true p) :: zs) := fun H gs zs h => by
    rw [bors_cons, h]; simp
  have ko := impl_ParserOk_spec p hm
  have kr := not_runes l hl
  have cp := fun H => fresh_agg goodParser (f := fn.impl_Parser_copied) (args := [.agg (mParser true p)]) (xs := [.agg (mParser true p)]) (H := H) (x := p) (bM _ _ _ (by simp)) (impl_Parser_copied_spec p hm H.length)
  obtain ⟨M, hM⟩ : ∃ M, mParser true p = M := ⟨_, rfl⟩
  rw [hM] at hML ko ⊢
  simp only [hM] at bM cp
  obtain ⟨H0, hH0⟩ : ∃ H0 : Heap, [M, [.int .i64 0, .nils, .int .i64 0, .nils]] = H0 := ⟨_, rfl⟩
  have A0 : H0[0]? = some M := by rw [← hH0]; rfl
  have Z0 : H0[1]? = some [.int .i64 0, .nils, .int .i64 0, .nils] := by rw [← hH0]; rfl
  have l0 : H0.length = 2 := by rw [← hH0]; rfl
  have hbox : ∀ {Q : Type} (K : GV → Heap → Option Q), kbox (.agg M) [] K = K (.ptr 0 0 4) [M] := fun K => by rw [kbox_agg, hML]; rfl
  have hal : ∀ {Q : Type} (K : GV → Heap → Option Q), kalloc [.int .i64 0, .nils, .int .i64 0, .nils] [M] K = K (.ptr 1 0 4) H0 := fun K => by rw [kalloc_eq, ← hH0]; rfl
  have ko' : kN NN fn.impl_ParserOk [.agg M] H0 = some (.bool (parserB p)) := kN_at (bM _ _ _ (by simp)) ko
  have kr' : kN NN fn.slices_ContainsFunc_int64 [fzl true 1 ci l, .fn fn.impl_parsed_1 []] H0 = some (.bool !(l.all runeB)) := kN_at (xs := [fzl true 1 ci l, .fn fn.impl_parsed_1 []]) (by simp; rfl) kr
  have a0 := kloadA_at (n := 4) A0 hML
  unfold parsedM
  cases hp : parserB p
  · rw [hp] at ko'
    rw [if_neg (by simp)]
    have s1 := kstoreA_at (n := 4) Z0 rfl (c' := [.int .i64 0, .nils, .int .i64 0, .nils]) rfl (by simp)
    have e1 : H0.set 1 [.int .i64 0, .nils, .int .i64 0, .nils] = H0 := by rw [← hH0]; rfl
    rw [e1] at s1
    have a1 := kloadA_at (n := 4) Z0 rfl
    obtain ⟨c, v, bl, n, o1, o2, o3⟩ := goodParser.finP goodActionS (by omega) (by omega) (parser_rel (s := 0) (m := 0) (H := H0) no_ints no_ints) (no_act (H := H0)) List.nodup_nil b
    refine ⟨c, v, bl, n, S.impl_parsed.gives (k := 0) ?_, o2, o3⟩
    simp [S.impl_parsed.run, hbox, hal, a0, ko', gfill, s1, a1, o1, -kN_eq, -kbox_agg, -kalloc_eq, -kloadA_ptr, -kstore_ptr]
  cases hr : l.all runeB
  · rw [hp] at ko'
    rw [hr] at kr'
    rw [if_neg (by simp)]
    have s1 := kstoreA_at (n := 4) Z0 rfl (c' := [.int .i64 0, .nils, .int .i64 0, .nils]) rfl (by simp)
    have e1 : H0.set 1 [.int .i64 0, .nils, .int .i64 0, .nils] = H0 := by rw [← hH0]; rfl
    rw [e1] at s1
    have a1 := kloadA_at (n := 4) Z0 rfl
    obtain ⟨c, v, bl, n, o1, o2, o3⟩ := goodParser.finP goodActionS (by omega) (by omega) (parser_rel (s := 0) (m := 0) (H := H0) no_ints no_ints) (no_act (H := H0)) List.nodup_nil b
    refine ⟨c, v, bl, n, S.impl_parsed.gives (k := 0) ?_, o2, o3⟩
    simp [S.impl_parsed.run, hbox, hal, a0, ko', kr', gfill, s1, a1, o1, -kN_eq, -kbox_agg, -kalloc_eq, -kloadA_ptr, -kstore_ptr]
  rw [hp] at ko'
  rw [hr] at kr'
  rw [if_pos (by simp)]
  obtain ⟨c1, R1, H1, t1, r1, n1, b1, f1, l1⟩ := cp H0
  have cl1 := goodParser.len r1
  have v1 := var_at (H := H1) (z := [.int .i64 0, .nils, .int .i64 0, .nils]) (c := c1) (n := 4) rfl cl1 (goodParser.cell r1)
  obtain ⟨H2, hH2⟩ : ∃ H2, H1 ++ [c1] = H2 := ⟨_, rfl⟩
  rw [hH2] at v1
  have f2 : Fr [] H1 H2 := by rw [← hH2]; exact .app
  have l2 : H2.length = H1.length + 1 := by rw [← hH2]; simp
  have X2 : H2[H1.length]? = some c1 := by rw [← hH2]; simp
  have r2 := goodParser.keep r1 f2 (fun _ _ => no_nil)
  have Z2 := f2.blk (f1.blk Z0 no_nil) no_nil
  -- the loop
  have start : PLoop H1.length 2 (p, []) (.emp, H2) := by
    obtain ⟨x1, y1, S1, S2, e1, e2, ⟨rfl, rfl⟩, x2, y2, S3, S4, rfl, rfl, i1, x3, y3, S5, S6, rfl, rfl, ⟨rfl, rfl⟩, i2⟩ := r2
    obtain ⟨vP, rfl⟩ := List.length_eq_one_iff.1 (goodInt64S.len i1)
    obtain ⟨vT, rfl⟩ := List.length_eq_one_iff.1 (goodInt64S.len i2)
    have e3 : R1 = S3 ++ S6 := by rw [e2]; rfl
    rw [e3, List.nodup_append] at n1
    rw [e3] at b1
    refine ⟨vP, vT, S3, S6, [], ⟨by rw [X2, e1]; rfl, i1, i2, n1.1, n1.2.1, fun i hi hj => n1.2.2 i hi i hj rfl, fun h => by have := b1 _ (List.mem_append_left _ h); omega, fun h => by have := b1 _ (List.mem_append_right _ h); omega⟩, no_act', List.nodup_nil, fun i hi => by (cases hi), fun i hi => ?_⟩
    rcases hi with hi | hi | hi
    · have := b1 _ (List.mem_append_left _ hi); omega
    · have := b1 _ (List.mem_append_right _ hi); omega
    · cases hi
  have key := loop_inv (n := l.length) (T := GV × Heap) (Inv := fun j x => PLoop H1.length 2 (runM (l.take j) p) x ∧ 2 ≤ x.2.length ∧ x.2[1]? = some [.int .i64 0, .nils, .int .i64 0, .nils])
    (f := fun r j x => fun (G : GX → GV → GV → GV → GV → Heap → Option (GV × List (List GV))) => S.impl_parsed.l7 (l.length + 1) G r (.ptr 1 0 4) .nils (.ptr H1.length 0 4) x.1 (fzl true 1 ci l) (.int .i64 (l.length : Int)) (.int .i64 (j : Int)) x.2)
    (A := fun x => fun G => G (.ext 0) (.ptr 1 0 4) .nils (.ptr H1.length 0 4) x.1 x.2) (s := (.emp, H2)) ?_ ?_ ⟨start, by show 2 ≤ H2.length; omega, Z2⟩ (m := l.length + 1) (by omega)
  · obtain ⟨⟨o, H3⟩, k1, ⟨vP, vT, RP, RT, RA, g1, g2, g3, g4, g5⟩, k3, Z3⟩ := key
    try simp only at g1 g2 k3 Z3 k1
    rw [List.take_length] at g1 g2
    have lo := RSl.len g2
    have hok : okParser (runM l p).1 := okParser_of_B (runM_ok l hp hr)
    have rp : rParser H3 [.int .i64 (runM l p).1.1, vP, .int .i64 (runM l p).1.2.2.1, vT] (runM l p).1 (RP ++ RT) := parser_rel g1.ps g1.tx
    have a3 := kloadA_at (n := 4) g1.cell rfl
    obtain ⟨c4, R4, H4, t4, r4, n4, b4, f4, l4⟩ := fresh_agg goodParser (f := fn.impl_Parser_copied) (args := [.agg [.int .i64 (runM l p).1.1, vP, .int .i64 (runM l p).1.2.2.1, vT]]) (xs := [.agg (mParser true (runM l p).1)]) (H := H3) (x := (runM l p).1) (bors_agg goodParser (by omega) rp (gs := []) (xs := []) rfl) (impl_Parser_copied_spec _ hok H3.length)
    have Z4 := f4.blk Z3 no_nil
    have s4 := kstoreA_at (n := 4) Z4 rfl (c' := c4) (goodParser.len r4) (goodParser.cell r4)
    obtain ⟨H5, hH5⟩ : ∃ H5, H4.set 1 c4 = H5 := ⟨_, rfl⟩
    rw [hH5] at s4
    have hl4 := (List.getElem?_eq_some_iff.1 Z4).1
    have A5 : H5[1]? = some c4 := by rw [← hH5, List.getElem?_set_self hl4]
    have f5 : Fr [1] H4 H5 := by rw [← hH5]; exact .set (by simp)
    have a5 := kloadA_at (n := 4) A5 (goodParser.len r4)
    have r5 := goodParser.keep r4 f5 (fun i hi h => by have := b4 i hi; rw [List.mem_singleton] at h; omega)
    have o5 := goodActionS.keep (goodActionS.keep g2 f4 (fun _ _ => no_nil)) f5 (fun i hi h => by have := g5 i (Or.inr (Or.inr hi)); rw [List.mem_singleton] at h; omega)
    have hm := goodActionS.mem g2
    obtain ⟨c, v, bl, n, o1, o2, o3⟩ := goodParser.finP goodActionS (by omega) (by omega) r5 o5 (by
      rw [List.nodup_append]
      exact ⟨n4, g3, fun i hi k hk e => by have := b4 i hi; have := hm k hk; omega⟩) b
    refine ⟨c, v, bl, n, S.impl_parsed.gives (k := l.length + 1) ?_, o2, o3⟩
    have k1' := fun G => congrFun k1 G
    simp only [show ((0 : Nat) : Int) = 0 from rfl] at k1'
    unfold S.impl_parsed.run S.impl_parsed.n0
    rw [hbox, hal]
    simp [a0, ko', kr', t1, kalloc_at, v1, hH2, k1', a3, t4, s4, a5, o1, -kN_eq, -kF_OO, -kbox_agg, -kalloc_eq, -kloadA_ptr, -kstore_ptr]
  · rintro j r ⟨o, H⟩ hj ⟨i1, i2, i3⟩
    have hpj : parserB (runM (l.take j) p).1 = true := runM_ok _ hp (by rw [List.all_eq_true] at hr ⊢; exact fun x hx => hr x (List.mem_of_mem_take hx))
    have hlen := runM_len (l.take j) p
    rw [List.length_take] at hlen
    obtain ⟨v, H3, o', H4, e1, e2, e3, e4, e5⟩ := i1.step hpj i2 (by omega) l[j] [(1, [.int .i64 0, .nils, .int .i64 0, .nils])] (fun k hk => by rw [List.mem_singleton] at hk; subst hk; exact ⟨i3, by omega, by omega⟩)
    have et : l.take (j + 1) = l.take j ++ [l[j]] := by rw [List.take_add_one, List.getElem?_eq_getElem hj]; rfl
    refine ⟨(o', H4), funext fun G => ?_, by rw [et, runM_snoc]; exact e3, Nat.le_trans i2 e4, e5 _ (List.mem_singleton.2 rfl)⟩
    have g1 : kbin .lss (.int .i64 (j : Int)) (.int .i64 (l.length : Int)) = some (.bool true) := by rw [klt, decide_eq_true hj]
    have kj := kadd1 (n := j) (by omega)
    have k0 : kia 1 (fzl true 1 ci l) (.int .i64 (j : Int)) = some (elp true ci l j) := by rw [kia_fzl (es := 1) (fun _ => rfl), if_pos (by omega)]; rfl
    have ke : kload1 H (elp true ci l j) = some (.int .i64 l[j]) := by rw [kload1_ci, get_of hj]; rfl
    simp only [S.impl_parsed.l7]
    simp [g1, k0, ke, e1, e2, kj, -kbin_lss, -kbin_add, -kload1_ci]
  · rintro r ⟨o, H⟩ _
    funext G
    have g1 : kbin .lss (.int .i64 (l.length : Int)) (.int .i64 (l.length : Int)) = some (.bool false) := by rw [klt, decide_eq_false (by omega)]
    simp only [S.impl_parsed.l7]
    simp [g1, -kbin_lss]
end Go.Proofs.Ytlbnioapepelnaa.G
