/- Draws: texts of runes, bytes, texts that are bent. -/
import Derived.Test.YtklhdbkaejbajaaDoorTDraw3
namespace Go.Proofs.YtklhdbkaejbajaaDoor.G
open Go.RowKit Go.Lib
set_option linter.unusedVariables false
set_option linter.unusedSimpArgs false

theorem spec_RuneOk_spec (r : Int) : ∃ b : Bool, NN fn.spec_RuneOk [.int .i64 r] = some (.bool b) := by
  have i1 := spec_l1In_spec r 0 1114111
  have i2 := spec_l1In_spec r 55296 57343
  generalize (decide (0 ≤ r) && decide (r ≤ 1114111)) = c1 at *
  generalize (decide (55296 ≤ r) && decide (r ≤ 57343)) = c2 at *
  have k1 : ∀ H, kN NN fn.spec_l1In [.int .i64 r, .int .i64 0, .int .i64 1114111] H = some (.bool c1) := fun H => kN_at (by simp) i1
  have k2 : ∀ H, kN NN fn.spec_l1In [.int .i64 r, .int .i64 55296, .int .i64 57343] H = some (.bool c2) := fun H => kN_at (by simp) i2
  refine ⟨c1 && !c2, ?_⟩
  apply S.spec_RuneOk.gives (k := 0)
  cases c1 <;> cases c2 <;> simp [S.spec_RuneOk.run, k1, k2, -kN_eq]
theorem kconv8 (x : Int) : ∃ c : UInt8, kconvI .u8 (.int .i64 x) = some (.int .u8 (c.toNat : Int)) := by
  refine ⟨UInt8.ofNat (x % 256).toNat, ?_⟩
  rw [kconvI_int]
  congr 2
  have h1 := Int.emod_nonneg x (b := 256) (by omega)
  have h2 := Int.emod_lt_of_pos x (b := 256) (by omega)
  have h3 : (UInt8.ofNat (x % 256).toNat).toNat = (x % 256).toNat := by
    rw [UInt8.toNat_ofNat']
    exact Nat.mod_eq_of_lt (by omega)
  rw [h3]
  simp only [IntKind.wrap, IntKind.bits, IntKind.signed]
  simp
  omega
theorem kquo_ex (a b : Int) (h : b ≠ 0) : ∃ y : Int, kbin .quo (.int .i64 a) (.int .i64 b) = some (.int .i64 y) := ⟨_, kbin_quo h⟩
theorem krem_ex (a b : Int) (h : b ≠ 0) : ∃ y : Int, kbin .rem (.int .i64 a) (.int .i64 b) = some (.int .i64 y) := ⟨_, kbin_rem h⟩
theorem fin_lit (l : List UInt8) : finN (.sl 0 0 l.length l.length 1) [l.flatMap cy] = some (fzl false 1 cy l) :=
  finN_of (frz_sl (mk := cy) (mk' := cy) (rest := []) (d := 8) (fun _ => rfl) (by simp) (by have := cy_len l; simpa using this) (Nat.le_refl _) fun a _ => .cons rfl .nil)
theorem spec_l1Put_spec (r : Int) : ∃ l : List UInt8, NN fn.spec_l1Put [.int .i64 r] = some (fzl false 1 cy l) ∧ l.length ≤ 4 := by
  by_cases h1 : r < 128
  · obtain ⟨c, e1⟩ := kconv8 r
    have fl : finN (.sl 0 0 1 1 1) [[GV.int .u8 (c.toNat : Int)]] = some (fzl false 1 cy [c]) := fin_lit [c]
    have gf : gfill (fun i => some (i, 1)) (zeros [(.int .u8 0)] 1) [(0, .int .u8 (c.toNat : Int))] = some [GV.int .u8 (c.toNat : Int)] := by rfl
    refine ⟨[c], ?_, by simp⟩
    apply S.spec_l1Put.gives (k := 0)
    generalize GV.int .u8 (c.toNat : Int) = C at *
    generalize fzl false 1 cy [c] = Z at *
    simp [S.spec_l1Put.run, h1, e1, gf, kbs_at', fl]
  by_cases h2 : r < 2048
  · obtain ⟨x1, q1⟩ := kquo_ex r 64 (by omega)
    obtain ⟨x2, q2⟩ := kbin_ex .add (by simp) 192 x1
    obtain ⟨c, e1⟩ := kconv8 x2
    obtain ⟨x3, q3⟩ := krem_ex r 64 (by omega)
    obtain ⟨x4, q4⟩ := kbin_ex .add (by simp) 128 x3
    obtain ⟨d, e2⟩ := kconv8 x4
    have fl : finN (.sl 0 0 2 2 1) [[GV.int .u8 (c.toNat : Int), .int .u8 (d.toNat : Int)]] = some (fzl false 1 cy [c, d]) := fin_lit [c, d]
    have gf : gfill (fun i => some (i, 1)) (zeros [(.int .u8 0)] 2) [(0, .int .u8 (c.toNat : Int)), (1, .int .u8 (d.toNat : Int))] = some [GV.int .u8 (c.toNat : Int), .int .u8 (d.toNat : Int)] := by rfl
    refine ⟨[c, d], ?_, by simp⟩
    apply S.spec_l1Put.gives (k := 0)
    generalize GV.int .u8 (c.toNat : Int) = C at *
    generalize GV.int .u8 (d.toNat : Int) = D at *
    generalize fzl false 1 cy [c, d] = Z at *
    simp [S.spec_l1Put.run, h1, h2, q1, q2, q3, q4, e1, e2, gf, kbs_at', fl, -kbin_add, -kconvI_int]
  by_cases h3 : r < 65536
  · obtain ⟨x1, q1⟩ := kquo_ex r 4096 (by omega)
    obtain ⟨x2, q2⟩ := kbin_ex .add (by simp) 224 x1
    obtain ⟨c, e1⟩ := kconv8 x2
    obtain ⟨x3, q3⟩ := kquo_ex r 64 (by omega)
    obtain ⟨x4, q4⟩ := krem_ex x3 64 (by omega)
    obtain ⟨x5, q5⟩ := kbin_ex .add (by simp) 128 x4
    obtain ⟨d, e2⟩ := kconv8 x5
    obtain ⟨x6, q6⟩ := krem_ex r 64 (by omega)
    obtain ⟨x7, q7⟩ := kbin_ex .add (by simp) 128 x6
    obtain ⟨f, e3⟩ := kconv8 x7
    have fl : finN (.sl 0 0 3 3 1) [[GV.int .u8 (c.toNat : Int), .int .u8 (d.toNat : Int), .int .u8 (f.toNat : Int)]] = some (fzl false 1 cy [c, d, f]) := fin_lit [c, d, f]
    have gf : gfill (fun i => some (i, 1)) (zeros [(.int .u8 0)] 3) [(0, .int .u8 (c.toNat : Int)), (1, .int .u8 (d.toNat : Int)), (2, .int .u8 (f.toNat : Int))] = some [GV.int .u8 (c.toNat : Int), .int .u8 (d.toNat : Int), .int .u8 (f.toNat : Int)] := by rfl
    refine ⟨[c, d, f], ?_, by simp⟩
    apply S.spec_l1Put.gives (k := 0)
    generalize GV.int .u8 (c.toNat : Int) = C at *
    generalize GV.int .u8 (d.toNat : Int) = D at *
    generalize GV.int .u8 (f.toNat : Int) = F at *
    generalize fzl false 1 cy [c, d, f] = Z at *
    simp [S.spec_l1Put.run, h1, h2, h3, q1, q2, q3, q4, q5, q6, q7, e1, e2, e3, gf, kbs_at', fl, -kbin_add, -kconvI_int]
  · obtain ⟨x1, q1⟩ := kquo_ex r 262144 (by omega)
    obtain ⟨x2, q2⟩ := kbin_ex .add (by simp) 240 x1
    obtain ⟨c, e1⟩ := kconv8 x2
    obtain ⟨x3, q3⟩ := kquo_ex r 4096 (by omega)
    obtain ⟨x4, q4⟩ := krem_ex x3 64 (by omega)
    obtain ⟨x5, q5⟩ := kbin_ex .add (by simp) 128 x4
    obtain ⟨d, e2⟩ := kconv8 x5
    obtain ⟨x6, q6⟩ := kquo_ex r 64 (by omega)
    obtain ⟨x7, q7⟩ := krem_ex x6 64 (by omega)
    obtain ⟨x8, q8⟩ := kbin_ex .add (by simp) 128 x7
    obtain ⟨f, e3⟩ := kconv8 x8
    obtain ⟨x9, q9⟩ := krem_ex r 64 (by omega)
    obtain ⟨x10, q10⟩ := kbin_ex .add (by simp) 128 x9
    obtain ⟨g, e4⟩ := kconv8 x10
    have fl : finN (.sl 0 0 4 4 1) [[GV.int .u8 (c.toNat : Int), .int .u8 (d.toNat : Int), .int .u8 (f.toNat : Int), .int .u8 (g.toNat : Int)]] = some (fzl false 1 cy [c, d, f, g]) := fin_lit [c, d, f, g]
    have gf : gfill (fun i => some (i, 1)) (zeros [(.int .u8 0)] 4) [(0, .int .u8 (c.toNat : Int)), (1, .int .u8 (d.toNat : Int)), (2, .int .u8 (f.toNat : Int)), (3, .int .u8 (g.toNat : Int))] = some [GV.int .u8 (c.toNat : Int), .int .u8 (d.toNat : Int), .int .u8 (f.toNat : Int), .int .u8 (g.toNat : Int)] := by rfl
    refine ⟨[c, d, f, g], ?_, by simp⟩
    apply S.spec_l1Put.gives (k := 0)
    generalize GV.int .u8 (c.toNat : Int) = C at *
    generalize GV.int .u8 (d.toNat : Int) = D at *
    generalize GV.int .u8 (f.toNat : Int) = F at *
    generalize GV.int .u8 (g.toNat : Int) = E at *
    generalize fzl false 1 cy [c, d, f, g] = Z at *
    simp [S.spec_l1Put.run, h1, h2, h3, q1, q2, q3, q4, q5, q6, q7, q8, q9, q10, e1, e2, e3, e4, gf, kbs_at', fl, -kbin_add, -kconvI_int]

theorem gcells_cy {t : Bool} {l : List UInt8} {h : Heap} : gcells h 1 (fzl t 1 cy l) = some (l.length, l.flatMap cy, []) := by
  cases l with
  | nil => rfl
  | cons b l => rfl
theorem spec_Text_spec (xs : List Int) (hx : xs.length ≤ 1000) : ∃ l : List UInt8, NN fn.spec_Text [fzl true 1 ci xs] = some (.str (bs l)) ∧ l.length ≤ 4 * xs.length := by
  have kl : klen (fzl true 1 ci xs) = some (.int .i64 (xs.length : Nat)) := klen_fzl
  have key := loop_inv (T := GV × Heap) (Inv := fun j s => ∃ l, BufG cy s.1 l s.2 ∧ l.length ≤ 4 * j) (n := xs.length) (f := fun r j s => S.spec_Text.l6 (xs.length + 1) (fun x v2 v3 h => kb 0 x fun x => kx x (S.spec_Text.n3 (xs.length + 1) (fun x v2 h => kend x (finN v2 h)) v3 h) (kend x (finN v2 h))) r (fzl true 1 ci xs) (.str { data := #[] }) s.1 (.int .i64 (j : Nat)) s.2) (A := fun s => (kbstr s.2 s.1).bind fun v => finN v s.2) (m := xs.length + 1)
    (fun j r s hj hs => by
      obtain ⟨v, H⟩ := s
      obtain ⟨l, hb, hl⟩ := hs
      simp only at hb
      have h1 : (j : Int) < xs.length := by omega
      have lt : kbin .lss (.int .i64 (j : Nat)) (.int .i64 (xs.length : Nat)) = some (.bool true) := by rw [kbin_lss, decide_eq_true h1]
      have ki : kia 1 (fzl true 1 ci xs) (.int .i64 (j : Nat)) = some (elp true ci xs j) := by rw [kia_ci, if_pos ⟨by omega, h1⟩]; simp
      have ld : kload1 H (elp true ci xs j) = some (.int .i64 xs[j]) := by rw [kload1_ci, get_of hj]; rfl
      have ad : kbin .add (.int .i64 (j : Nat)) (.int .i64 1) = some (.int .i64 ((j + 1 : Nat) : Int)) := by rw [kbin_add, wrap_succ (by simp only [maxLen]; omega)]; rfl
      obtain ⟨b, rk⟩ := spec_RuneOk_spec xs[j]
      have k1 : kN NN fn.spec_RuneOk [.int .i64 xs[j]] H = some (.bool b) := kN_at (by simp) rk
      obtain ⟨m, pt, hm⟩ := spec_l1Put_spec (bif b then xs[j] else 65533)
      have k2 : kN NN fn.spec_l1Put [.int .i64 (bif b then xs[j] else 65533)] H = some (fzl false 1 cy m) := kN_at (by simp) pt
      obtain ⟨v', H', a1, a2, a3, a4⟩ := BufG.add (mk := cy) (fun _ => rfl) (fun _ => rfl) (z := [.int .u8 0]) rfl (sz := 1) (by omega) hb (gcells_cy (t := false) (l := m) (h := H)) (by omega)
      refine ⟨(v', H'), ?_, ⟨l ++ m, a2, by rw [List.length_append]; omega⟩⟩
      generalize fzl true 1 ci xs = X at *
      generalize fzl false 1 cy m = M at *
      generalize elp true ci xs j = E at *
      generalize GV.int .i64 ((j + 1 : Nat) : Int) = J' at *
      generalize GV.int .i64 (j : Nat) = J at *
      generalize xs[j] = x at *
      cases b <;> simp only [cond_true, cond_false] at k2 <;> simp [S.spec_Text.l6, kl, lt, ki, ld, k1, k2, a1, ad, -kN_eq])
    (fun r s hs => by
      have lt : kbin .lss (.int .i64 (xs.length : Nat)) (.int .i64 (xs.length : Nat)) = some (.bool false) := by rw [kbin_lss, decide_eq_false (by omega)]
      generalize fzl true 1 ci xs = X at *
      generalize GV.int .i64 (xs.length : Nat) = L at *
      simp [S.spec_Text.l6, kl, lt]) (s := (.emp, [])) ⟨[], .inl ⟨rfl, rfl⟩, by simp⟩ (by omega)
  obtain ⟨s, k1, l, hb, hl⟩ := key
  refine ⟨l, ?_, hl⟩
  apply S.spec_Text.gives (k := xs.length + 1)
  refine Eq.trans ?_ (k1.trans ?_)
  · simp [S.spec_Text.run]
  · rw [(Bytes.of hb).str]; rfl
end Go.Proofs.YtklhdbkaejbajaaDoor.G
