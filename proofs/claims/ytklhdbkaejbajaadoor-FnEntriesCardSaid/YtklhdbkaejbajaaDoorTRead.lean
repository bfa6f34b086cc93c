/- Words between blanks; digits in pairs. -/
import Derived.Test.YtklhdbkaejbajaaDoorTTake
import Derived.Test.YtklhdbkaejbajaaDoorTLps
import Derived.Test.YtklhdbkaejbajaaDoorSE
import Derived.Lib.SplitLaws
namespace Go.Proofs.YtklhdbkaejbajaaDoor.G
open Go.RowKit Go.Lib
set_option linter.unusedVariables false
set_option linter.unusedSimpArgs false

/-! Words. -/
def wrd : List UInt8 → List (List UInt8)
  | [] => [[]]
  | b :: l => if b = 32 then [] :: wrd l else match wrd l with
    | w :: ws => (b :: w) :: ws
    | [] => [[b]]
theorem wrd_hit : ∀ (A R : List UInt8), (32 : UInt8) ∉ A → wrd (A ++ 32 :: R) = A :: wrd R
  | [], R, _ => by simp [wrd]
  | b :: A, R, h => by
    have hb : b ≠ 32 := fun e => h (by simp [e])
    have := wrd_hit A R fun hc => h (List.mem_cons_of_mem _ hc)
    simp only [List.cons_append, wrd, hb, if_false, this]
theorem wrd_miss : ∀ (A : List UInt8), (32 : UInt8) ∉ A → wrd A = [A]
  | [], _ => rfl
  | b :: A, h => by
    have hb : b ≠ 32 := fun e => h (by simp [e])
    have := wrd_miss A fun hc => h (List.mem_cons_of_mem _ hc)
    simp only [wrd, hb, if_false, this]
theorem wrd_len : ∀ (l : List UInt8), 1 ≤ (wrd l).length ∧ (wrd l).length ≤ l.length + 1
  | [] => by simp [wrd]
  | b :: l => by
    have := wrd_len l
    by_cases h : b = 32
    · simp only [wrd, h, if_true, List.length_cons]; omega
    · simp only [wrd, h, if_false]
      cases hw : wrd l with
      | nil => rw [hw] at this; simp at this
      | cons w ws =>
        rw [hw] at this
        simp only [List.length_cons] at this ⊢
        omega
theorem wrd_mem : ∀ (l : List UInt8), ∀ w ∈ wrd l, w.length ≤ l.length
  | [], w, h => by simp [wrd] at h; simp [h]
  | b :: l, w, h => by
    by_cases hb : b = 32
    · simp only [wrd, hb, if_true] at h
      rcases List.mem_cons.1 h with rfl | h
      · simp
      · have := wrd_mem l w h; simp; omega
    · simp only [wrd, hb, if_false] at h
      cases hw : wrd l with
      | nil =>
        rw [hw] at h
        simp at h
        simp [h]
      | cons w' ws =>
        rw [hw] at h
        rcases List.mem_cons.1 h with rfl | h
        · have := wrd_mem l w' (by rw [hw]; simp)
          simp; omega
        · have := wrd_mem l w (by rw [hw]; simp [h])
          simp; omega
theorem split_at {c : UInt8} : ∀ (l : List UInt8), c ∈ l → ∃ A R, l = A ++ c :: R ∧ c ∉ A
  | [], h => by cases h
  | b :: l, h => by
    by_cases hb : b = c
    · exact ⟨[], l, by rw [hb]; rfl, by simp⟩
    · obtain ⟨A, R, h1, h2⟩ := split_at l ((List.mem_cons.1 h).resolve_left fun e => hb e.symm)
      refine ⟨b :: A, R, by rw [h1]; rfl, fun hc => ?_⟩
      rcases List.mem_cons.1 hc with hc | hc
      · exact hb hc.symm
      · exact h2 hc

/-! The reference's words. -/
theorem l7w_all {R : Type} (k : Nat) (G : KT2 R) (s : List UInt8) (hs : s.length ≤ 1048576) (v2 : GV) {m : Nat} (hm : s.length + 1 < m) :
    ∃ v H, S.spec_l18Words.l7 k G m (.str (bs s)) v2 .emp (.int .i64 0) (.int .i64 0) [] = G (.ext 0) v2 v H ∧ BufG cs v ((wrd s).map bs) H := by
  have kl := klenS_bs s
  have key := loop_inv (T := Nat × List (List UInt8) × GV × Heap) (n := s.length + 1) (m := m)
    (Inv := fun j x => x.1 ≤ j ∧ x.2.1.length ≤ j ∧ BufG cs x.2.2.1 (x.2.1.map bs) x.2.2.2 ∧ (∀ i (h : i < s.length), x.1 ≤ i → i < j → s[i] ≠ 32) ∧ if j = s.length + 1 then x.2.1 = wrd s else wrd s = x.2.1 ++ wrd (s.drop x.1))
    (f := fun r j x => S.spec_l18Words.l7 k G r (.str (bs s)) v2 x.2.2.1 (.int .i64 (x.1 : Nat)) (.int .i64 (j : Nat)) x.2.2.2)
    (A := fun x => G (.ext 0) v2 x.2.2.1 x.2.2.2) (s := (0, [], .emp, []))
    (by
      rintro j r ⟨a, ws, v, H⟩ hj ⟨ha, hns, hb, hno, hh⟩
      simp only at ha hns hb hno hh
      rw [if_neg (by omega)] at hh
      simp only
      have hle : kbin .leq (.int .i64 (j : Nat)) (.int .i64 (s.length : Nat)) = some (.bool true) := by rw [kbin_leq, decide_eq_true (by omega)]
      have w1 : kbin .add (.int .i64 (j : Nat)) (.int .i64 1) = some (.int .i64 ((j + 1 : Nat) : Int)) := by rw [kbin_add, wrap_id (by omega) (by omega)]; rfl
      have q1 : kbin .eql (.int .i64 (j : Nat)) (.int .i64 (s.length : Nat)) = some (.bool (decide (j = s.length))) := by rw [kbin_eql]; congr 2; rw [Bool.eq_iff_iff]; simp; omega
      by_cases hskip : ∃ h : j < s.length, s[j] ≠ 32
      · obtain ⟨h1, h2⟩ := hskip
        rw [decide_eq_false (by omega)] at q1
        have kb := kbyte_nat (k := .i64) (l := s) h1
        have g3 : ¬ (s[j].toNat : Int) = 32 := fun e => h2 (UInt8.toNat_inj.1 (show s[j].toNat = 32 by omega))
        obtain ⟨x, hx⟩ : ∃ x : Int, x = (s[j].toNat : Int) := ⟨_, rfl⟩
        rw [← hx] at kb g3
        refine ⟨(a, ws, v, H), ?_, (by show a ≤ j + 1; omega), (by show ws.length ≤ j + 1; omega), hb, fun i hi h3 h4 => ?_, ?_⟩
        · generalize GV.str (bs s) = D at *
          generalize GV.int .i64 ((j + 1 : Nat) : Int) = J' at *
          generalize GV.int .i64 (j : Nat) = J at *
          generalize GV.int .i64 (s.length : Nat) = N0 at *
          simp [S.spec_l18Words.l7, kl, hle, q1, kb, g3, w1]
        · rcases Nat.lt_or_ge i j with q | q
          · exact hno i hi h3 q
          · have : i = j := by omega
            subst this
            exact h2
        · rw [if_neg (by omega)]; exact hh
      · obtain ⟨w, hw⟩ : ∃ w, (s.take j).drop a = w := ⟨_, rfl⟩
        have sl : kslS (.str (bs s)) (some (.int .i64 (a : Nat))) (some (.int .i64 (j : Nat))) none = some (.str (bs w)) := by rw [slS_mid ha (by omega), hw]
        obtain ⟨v', H', a1, a2⟩ := hb.app (mk := cs) (fun _ => rfl) (fun _ => rfl) (z := [.str { data := #[] }]) rfl (sz := 16) (by omega) (m := [bs w]) (by simp) (by simp; omega)
        have a1' : kapp [.str { data := #[] }] 1 16 v (.sl H.length 0 1 1 1) (H ++ [[GV.str (bs w)]]) = some (v', H') := a1
        have gf := gfill_one' (v := .str (bs w)) (z := [.str { data := #[] }]) rfl rfl
        have hwn : (32 : UInt8) ∉ w := fun hc => by
          rw [← hw] at hc
          obtain ⟨i, hi, e⟩ := List.getElem_of_mem hc
          rw [List.getElem_drop, List.getElem_take] at e
          rw [List.length_drop, List.length_take] at hi
          exact hno (a + i) (by omega) (by omega) (by omega) e
        have stop : (kbin .eql (.int .i64 (j : Nat)) (.int .i64 (s.length : Nat)) = some (.bool true) ∧ j = s.length) ∨ (kbin .eql (.int .i64 (j : Nat)) (.int .i64 (s.length : Nat)) = some (.bool false) ∧ kbyte (.str (bs s)) (.int .i64 (j : Nat)) = some (.int .u8 32) ∧ ∃ h : j < s.length, s[j] = 32) := by
          rcases Nat.lt_or_ge j s.length with q | q
          · have e : s[j] = 32 := Decidable.byContradiction fun e => hskip ⟨q, e⟩
            exact .inr ⟨by rw [q1, decide_eq_false (by omega)], by rw [kbyte_nat q, e]; rfl, q, e⟩
          · exact .inl ⟨by rw [q1, decide_eq_true (by omega)], by omega⟩
        clear q1
        refine ⟨(j + 1, ws ++ [w], v', H'), ?_, Nat.le_refl _, by simp; omega, by simpa using a2, fun i hi h3 h4 => by simp only at h3; omega, ?_⟩
        · have stop' : (kbin .eql (.int .i64 (j : Nat)) (.int .i64 (s.length : Nat)) = some (.bool true)) ∨ (kbin .eql (.int .i64 (j : Nat)) (.int .i64 (s.length : Nat)) = some (.bool false) ∧ kbyte (.str (bs s)) (.int .i64 (j : Nat)) = some (.int .u8 32)) := by
            rcases stop with ⟨q, _⟩ | ⟨q, q', _⟩
            · exact .inl q
            · exact .inr ⟨q, q'⟩
          clear stop
          generalize GV.str (bs s) = D at *
          generalize GV.str (bs w) = W at *
          generalize GV.int .i64 ((j + 1 : Nat) : Int) = J' at *
          generalize GV.int .i64 (j : Nat) = J at *
          generalize GV.int .i64 (a : Nat) = A at *
          generalize GV.int .i64 (s.length : Nat) = N0 at *
          rcases stop' with q | ⟨q, q'⟩
          · simp [S.spec_l18Words.l7, kl, hle, q, sl, gf, kbs_eq, a1', w1, -kbin_eql]
          · simp [S.spec_l18Words.l7, kl, hle, q, q', sl, gf, kbs_eq, a1', w1]
        · rcases stop with ⟨_, q⟩ | ⟨_, _, q, q'⟩
          · rw [if_pos (by omega)]
            show ws ++ [w] = wrd s
            have e : s.drop a = w := by rw [← hw, q, List.take_length]
            rw [hh, e, wrd_miss w hwn]
          · rw [if_neg (by omega)]
            have e : s.drop a = w ++ 32 :: s.drop (j + 1) := by
              rw [← hw, ← q', ← List.drop_eq_getElem_cons q]
              have e1 : a ≤ (s.take j).length := by rw [List.length_take]; omega
              conv => lhs; rw [← List.take_append_drop j s]
              rw [List.drop_append_of_le_length e1]
            show wrd s = (ws ++ [w]) ++ wrd (s.drop (j + 1))
            rw [hh, e, wrd_hit w _ hwn]
            simp)
    (by
      rintro r ⟨a, ws, v, H⟩ ⟨ha, hns, hb, hno, hh⟩
      simp only
      have hle : kbin .leq (.int .i64 ((s.length + 1 : Nat) : Int)) (.int .i64 (s.length : Nat)) = some (.bool false) := by rw [kbin_leq, decide_eq_false (by omega)]
      generalize GV.str (bs s) = D at *
      generalize GV.int .i64 ((s.length + 1 : Nat) : Int) = J at *
      generalize GV.int .i64 (s.length : Nat) = N0 at *
      simp [S.spec_l18Words.l7, kl, hle])
    ⟨Nat.le_refl _, Nat.le_refl _, .inl ⟨rfl, rfl⟩, fun i _ _ h => by omega, by rw [if_neg (by omega)]; simp⟩ hm
  obtain ⟨⟨a, ws, v, H⟩, e1, _, _, e2, _, e3⟩ := key
  rw [if_pos rfl] at e3
  simp only at e1 e2 e3
  subst e3
  exact ⟨v, H, e1, e2⟩
theorem spec_l18Words_spec (s : List UInt8) (hs : s.length ≤ 1048576) : NN fn.spec_l18Words [.str (bs s)] = some (fzl false 1 cs ((wrd s).map bs)) := by
  obtain ⟨v, H, e1, e2⟩ := l7w_all (s.length + 2) (fun x v2 v3 h => kb 0 x fun x => kx x (S.spec_l18Words.n4 (s.length + 2) (fun x v2 h => kend x (finN v2 h)) v3 h) (kend x (finN v2 h))) s hs .nils (m := s.length + 2) (by omega)
  obtain ⟨r, hr⟩ := e2.frz (d := 8) (fun _ => rfl) (fun a _ => .cs)
  have fz := finN_of hr
  refine S.spec_l18Words.gives (k := s.length + 2) ?_
  exact e1.trans (by simpa using fz)

/-! The program's words. -/
theorem count_hit {A R : List UInt8} (h : (32 : UInt8) ∉ A) : (A ++ 32 :: R).count 32 = R.count 32 + 1 := by
  rw [List.count_append, List.count_eq_zero_of_not_mem h, List.count_cons_self]; omega
theorem splitB_wrd : ∀ (k : Nat) (l : List UInt8), l.count 32 = k → splitB (bs [32]) 0 k (bs l) = (wrd l).map bs
  | 0, l, h => by
    have hn : (32 : UInt8) ∉ l := List.count_eq_zero.1 h
    rw [wrd_miss l hn, splitB_zero]; rfl
  | k + 1, l, h => by
    have hm : (32 : UInt8) ∈ l := List.count_pos_iff.1 (by omega)
    obtain ⟨A, R, rfl, hA⟩ := split_at l hm
    have hi : indexB (bs (A ++ 32 :: R)) (bs [32]) = ((A.length : Nat) : Int) := index_hit1 A R hA
    have hc := count_hit (R := R) hA
    rw [splitB_hit _ _ _ _ _ hi, wrd_hit A R hA, List.map_cons]
    have e1 : (bs (A ++ 32 :: R)).extract 0 (A.length + 0) = bs A := by rw [extract_bs]; simp
    have e2 : (bs (A ++ 32 :: R)).extract (A.length + (bs [32]).size) (bs (A ++ 32 :: R)).size = bs R := by
      rw [extract_bs, bs_size, bs_size, List.take_length]
      congr 1
      simp [List.drop_append]
    rw [e1, e2, splitB_wrd k R (by omega)]
theorem countB_wrd (l : List UInt8) : countB (bs l) (bs [32]) + 1 = (wrd l).length := by
  have h1 : countB (bs l) (bs [32]) = l.count 32 := count_one 32 l
  have h2 := splitB_all (bs [32]) (by simp) 0 (l.count 32) (bs l) h1
  rw [splitB_wrd _ _ rfl, List.length_map] at h2
  omega
end Go.Proofs.YtklhdbkaejbajaaDoor.G
