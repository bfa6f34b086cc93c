/- Draws: entries and the texts of which they are. -/
import Derived.Test.YtklhdbkaejbajaaDoorTDrawB
import Derived.Test.YtklhdbkaejbajaaDoorTRead3
import Derived.Test.YtklhdbkaejbajaaDoorSM
namespace Go.Proofs.YtklhdbkaejbajaaDoor.G
open Go.RowKit Go.Lib
set_option linter.unusedVariables false
set_option linter.unusedSimpArgs false

theorem spec_l1From_spec {p : Nat} {code : List UInt8} {H : Heap} (hl : code.length ≤ 1048576) (hc : Cur p code H) : ∃ (n : Int) (H' : Heap), HH fn.spec_l1From [.ptr p 0 3, .int .i64 0, .int .i64 5] H = some (.int .i64 n, H') ∧ Dr p code H H' := by
  obtain ⟨x, H1, e1, x0, _, _, d1⟩ := spec_l1Below_spec hl hc 6
  obtain ⟨y, q1⟩ := kbin_ex .add (by simp) 0 x
  have s1 : kbin .sub (.int .i64 5) (.int .i64 0) = some (.int .i64 5) := by rfl
  have s2 : kbin .add (.int .i64 5) (.int .i64 1) = some (.int .i64 6) := by rfl
  refine ⟨y, H1, ?_, d1⟩
  apply S.spec_l1From.gives (k := 0)
  simp [S.spec_l1From.run, s1, s2, e1, q1, finH, -kbin_add, -kbin_sub]

def textTab : List (Array UInt8) := [#[97, 98], #[120], #[195, 169], #[228, 184, 128], #[13, 10], #[10], #[9], #[8], #[27, 91, 50, 59, 51, 72], #[27, 91, 65], #[27, 91, 51, 66], #[27, 91, 50, 67], #[27, 91, 68], #[27, 91, 74], #[27, 91, 49, 75], #[27, 91, 50, 74], #[27, 91, 75], #[27, 91, 76], #[27, 91, 50, 77], #[27, 91, 64], #[27, 91, 50, 80], #[27, 91, 51, 88], #[27, 91, 83], #[27, 91, 84], #[27, 91, 49, 59, 51, 49, 109], #[27, 91, 48, 109], #[27, 91, 52, 52, 59, 55, 109], #[27, 91, 50, 59, 51, 114], #[27, 91, 114], #[27, 91, 63, 55, 108], #[27, 91, 63, 55, 104], #[27, 91, 63, 50, 53, 108], #[27, 91, 63, 49, 48, 52, 57, 104], #[27, 91, 63, 49, 48, 52, 57, 108], #[27, 68], #[27, 77], #[27, 69], #[27, 55], #[27, 56], #[27, 99], #[27, 93, 48, 59, 104, 105, 7], #[27, 93, 116, 27, 92], #[27, 91, 53, 71], #[27, 91, 50, 100], #[104, 101, 108, 108, 111, 32, 119, 111, 114, 108, 100]]
theorem textTab_ok : ∀ a ∈ textTab, a.size ≤ 20 := by decide
/-- What draws gather in a text. -/
theorem text_l6 {p : Nat} {code : List UInt8} (hl : code.length ≤ 1048576) (k : Nat) (v2 : GV) : ∀ (n r : Nat), n < r → n ≤ 1000 → ∀ (l : List UInt8) (H : Heap), Cur p code H → l.length + 20 * n ≤ 100000 →
    ∃ (l' : List UInt8) (H' : Heap), (∀ {Q : Type} (G : KT2 Q), S.spec_l6DrawText.l6 k G r (.ptr p 0 3) v2 (.str (bs l)) (.int .i64 (n : Nat)) H = G (.ext 0) v2 (.str (bs l')) H') ∧ l'.length ≤ l.length + 20 * n ∧ Dr p code H H'
  | 0, r + 1, _, _, l, H, hc, _ => by
    refine ⟨l, H, fun G => ?_, by omega, Dr.refl hc⟩
    generalize GV.str (bs l) = L at *
    simp [S.spec_l6DrawText.l6]
  | n + 1, r + 1, hr, hn, l, H, hc, hx => by
    have gt : kbin .gtr (.int .i64 ((n + 1 : Nat) : Int)) (.int .i64 0) = some (.bool true) := by rw [kbin_gtr, decide_eq_true (by omega)]
    have sb : kbin .sub (.int .i64 ((n + 1 : Nat) : Int)) (.int .i64 1) = some (.int .i64 (n : Nat)) := by rw [kbin_sub, wrap_id (by omega) (by omega)]; congr 2; omega
    have gf : gfill (fun i => some (i, 1)) (zeros [(.str { data := #[] })] 45) [(0, (.str { data := #[97, 98] })), (1, (.str { data := #[120] })), (2, (.str { data := #[195, 169] })), (3, (.str { data := #[228, 184, 128] })), (4, (.str { data := #[13, 10] })), (5, (.str { data := #[10] })), (6, (.str { data := #[9] })), (7, (.str { data := #[8] })), (8, (.str { data := #[27, 91, 50, 59, 51, 72] })), (9, (.str { data := #[27, 91, 65] })), (10, (.str { data := #[27, 91, 51, 66] })), (11, (.str { data := #[27, 91, 50, 67] })), (12, (.str { data := #[27, 91, 68] })), (13, (.str { data := #[27, 91, 74] })), (14, (.str { data := #[27, 91, 49, 75] })), (15, (.str { data := #[27, 91, 50, 74] })), (16, (.str { data := #[27, 91, 75] })), (17, (.str { data := #[27, 91, 76] })), (18, (.str { data := #[27, 91, 50, 77] })), (19, (.str { data := #[27, 91, 64] })), (20, (.str { data := #[27, 91, 50, 80] })), (21, (.str { data := #[27, 91, 51, 88] })), (22, (.str { data := #[27, 91, 83] })), (23, (.str { data := #[27, 91, 84] })), (24, (.str { data := #[27, 91, 49, 59, 51, 49, 109] })), (25, (.str { data := #[27, 91, 48, 109] })), (26, (.str { data := #[27, 91, 52, 52, 59, 55, 109] })), (27, (.str { data := #[27, 91, 50, 59, 51, 114] })), (28, (.str { data := #[27, 91, 114] })), (29, (.str { data := #[27, 91, 63, 55, 108] })), (30, (.str { data := #[27, 91, 63, 55, 104] })), (31, (.str { data := #[27, 91, 63, 50, 53, 108] })), (32, (.str { data := #[27, 91, 63, 49, 48, 52, 57, 104] })), (33, (.str { data := #[27, 91, 63, 49, 48, 52, 57, 108] })), (34, (.str { data := #[27, 68] })), (35, (.str { data := #[27, 77] })), (36, (.str { data := #[27, 69] })), (37, (.str { data := #[27, 55] })), (38, (.str { data := #[27, 56] })), (39, (.str { data := #[27, 99] })), (40, (.str { data := #[27, 93, 48, 59, 104, 105, 7] })), (41, (.str { data := #[27, 93, 116, 27, 92] })), (42, (.str { data := #[27, 91, 53, 71] })), (43, (.str { data := #[27, 91, 50, 100] })), (44, (.str { data := #[104, 101, 108, 108, 111, 32, 119, 111, 114, 108, 100] }))] =
        some (textTab.map fun a => GV.str { data := a }) := by kernel_rfl
    obtain ⟨x, H2, q, g, e2, k1, k2, ⟨s, rfl, hs⟩, d2⟩ := draw_tab hl hc (P := fun g => ∃ s : ByteArray, g = .str s ∧ s.size ≤ 20) (T := textTab.map fun a => GV.str { data := a }) (by
      intro g hg
      obtain ⟨a, ha, rfl⟩ := List.mem_map.1 hg
      exact ⟨_, rfl, textTab_ok a ha⟩) (n := 45) rfl (by decide) (m := 45) rfl
    obtain ⟨m, rfl⟩ : ∃ l, s = bs l := ⟨_, bs_eta s⟩
    rw [bs_size] at hs
    have ad := kadd_bs (a := l) (b := m) (by simp only [maxLen]; omega)
    obtain ⟨l', H3, b1, b2, b3⟩ := text_l6 hl k v2 n r (by omega) (by omega) (l ++ m) H2 d2.1 (by rw [List.length_append]; omega)
    refine ⟨l', H3, fun G => ?_, by rw [List.length_append] at b2; omega, d2.trans b3⟩
    rw [← b1 G]
    generalize (textTab.map fun a => GV.str { data := a }) = T at *
    generalize GV.str (bs (l ++ m)) = LM at *
    generalize GV.str (bs l) = L at *
    generalize GV.str (bs m) = M at *
    generalize GV.int .i64 ((n + 1 : Nat) : Int) = J' at *
    generalize GV.int .i64 (n : Nat) = J at *
    simp [S.spec_l6DrawText.l6, gt, gf, kbs_at', e2, k1, k2, ad, sb, -kia_sl]
theorem spec_l6DrawText_spec {p : Nat} {code : List UInt8} {H : Heap} (hl : code.length ≤ 1048576) (hc : Cur p code H) : ∃ (l : List UInt8) (H' : Heap), HH fn.spec_l6DrawText [.ptr p 0 3] H = some (.str (bs l), H') ∧ l.length ≤ 200 ∧ Dr p code H H' := by
  obtain ⟨n, H1, e1, hn, d1⟩ := draw_nat hl hc (n := 9) (by omega) (m := 9) rfl
  obtain ⟨l, H2, b1, b2, b3⟩ := text_l6 hl 10 (.str { data := #[] }) n 10 (by omega) (by omega) [] H1 d1.1 (by simp; omega)
  refine ⟨l, H2, ?_, by simp at b2; omega, d1.trans b3⟩
  have b1' : ∀ {Q : Type} (G : KT2 Q), S.spec_l6DrawText.l6 10 G 10 (.ptr p 0 3) (.str { data := #[] }) (.str { data := #[] }) (.int .i64 (n : Nat)) H1 = G (.ext 0) (.str { data := #[] }) (.str (bs l)) H2 := fun G => b1 G
  apply S.spec_l6DrawText.gives (k := 10)
  generalize GV.str (bs l) = L at *
  simp [S.spec_l6DrawText.run, e1, b1', finH]

/-! Entries in memory. -/
theorem st4 {H : Heap} {b : Nat} {C E : List GV} (hb : H[b]? = some C) (hC : C.length = 4) (hE : E.length = 4) (hc : E.all GV.isCell = true) : kstore 4 H (.ptr b 0 4) (.agg E) = some (H.set b E) := by
  rw [kstore_ptr, if_pos ⟨hE, hc⟩, cellsAt_if, hb]
  simp only [Option.bind_some, hC, if_true]
  rw [if_pos (by omega)]
  congr 2
  unfold splice
  rw [cells_agg, List.take_zero, List.nil_append, List.drop_of_length_le (by omega), List.append_nil]
theorem ld4 {H : Heap} {b : Nat} {C : List GV} (hb : H[b]? = some C) (hC : C.length = 4) : kloadA 4 H (.ptr b 0 4) = some (.agg C) :=
  kpartA_at hb hC (by rw [List.drop_zero, List.take_of_length_le (by omega)]) (by omega)
abbrev entC (k c q : Int) (l : List UInt8) : List GV := [.int .i64 k, .int .i64 c, .int .i64 q, .str (bs l)]

theorem spec_l18DrawEntry_spec {p : Nat} {code : List UInt8} {H : Heap} (hl : code.length ≤ 1048576) (hc : Cur p code H) : ∃ (k c q : Int) (l : List UInt8) (H' : Heap), HH fn.spec_l18DrawEntry [.ptr p 0 3] H = some (ent k c q l, H') ∧ l.length ≤ 200 ∧ Dr p code H H' := by
  have hlt := hc.lt
  have c0 : Cur p code (H ++ [zeroE]) := hc.app
  obtain ⟨x, H1, e1, hx, d1⟩ := draw_nat hl c0 (n := 5) (by omega) (m := 5) rfl
  have z1 : H1[H.length]? = some zeroE := d1.get (by omega) (by simp)
  have ka : ∀ {Q : Type} (h : Heap) (K : GV → Heap → Option Q), kalloc zeroE h K = K (.ptr h.length 0 4) (h ++ [zeroE]) := fun h K => rfl
  have kg : ∀ {Q : Type} (E : List GV) (h : Heap) (K : GV → Heap → Option Q), kagg E h K = K (.agg E) h := fun E h K => rfl
  have fin : ∀ {H2 : Heap} {k c q : Int} {l : List UInt8}, Dr p code H1 H2 → kstore 4 H2 (.ptr H.length 0 4) (.agg (entC k c q l)) = some (H2.set H.length (entC k c q l)) ∧ kloadA 4 (H2.set H.length (entC k c q l)) (.ptr H.length 0 4) = some (ent k c q l) ∧ Dr p code H (H2.set H.length (entC k c q l)) := fun {H2 k c q l} d => by
    have z2 : H2[H.length]? = some zeroE := d.get (by omega) z1
    refine ⟨st4 z2 rfl rfl rfl, ld4 (set_get z2) rfl, ?_⟩
    refine ⟨d.1.keep (R := [H.length]) (Fr.set (by simp)) (by simp; omega), ?_⟩
    have l1 := d1.2.1
    have l2 := d.2.1
    simp at l1
    have sm : Sm p H.length H (H2.set H.length (entC k c q l)) := (((Sm.of (R := []) Fr.app (Nat.le_refl _) (by intro i hi; cases hi)).trans (Sm.of d1.2 (by simp) (by intro i hi; simp at hi; exact .inl hi))).trans (Sm.of d.2 (by omega) (by intro i hi; simp at hi; exact .inl hi))).trans (Sm.of (R := [H.length]) (Fr.set (by simp)) (by omega) (by intro i hi; simp at hi; omega))
    exact sm.fr
  have run : ∀ {Q : Type} (r : Q), True := fun _ => trivial
  have eq0 : ∀ j : Int, kbin .eql (.int .i64 (x : Nat)) (.int .i64 j) = some (.bool (decide ((x : Int) = j))) := fun j => kbin_eql
  have cases5 : x = 0 ∨ x = 1 ∨ x = 2 ∨ x = 3 ∨ x = 4 := by omega
  have keys : (x = 0 ∨ x = 1) → ∃ (k c q : Int) (l : List UInt8) (H' : Heap), HH fn.spec_l18DrawEntry [.ptr p 0 3] H = some (ent k c q l, H') ∧ l.length ≤ 200 ∧ Dr p code H H' := fun h01 => by
    obtain ⟨a, H2, e2, ha, d2⟩ := draw_nat hl d1.1 (n := 2) (by omega) (m := 2) rfl
    obtain ⟨b, H3, e3, hb, d3⟩ := draw_nat hl d2.1 (n := 4) (by omega) (m := 4) rfl
    have ad : kbin .add (.int .i64 1) (.int .i64 (b : Nat)) = some (.int .i64 (1 + (b : Int))) := by rw [kbin_add, wrap_id (by omega) (by omega)]
    have gf : gfill (fun i => some (i, 1)) (zeros [(.str { data := #[] })] 4) [(0, (.str { data := #[97] })), (1, (.str { data := #[98, 99] })), (2, (.str { data := #[27, 91, 65] })), (3, (.str { data := #[13] }))] = some [(.str { data := #[97] }), (.str { data := #[98, 99] }), (.str { data := #[27, 91, 65] }), (.str { data := #[13] })] := by rfl
    obtain ⟨x4, H4, q4, g, e4, k1, k2, ⟨s, rfl, hs⟩, d4⟩ := draw_tab hl d3.1 (P := fun g => ∃ s : ByteArray, g = .str s ∧ s.size ≤ 3) (T := [(.str { data := #[97] }), (.str { data := #[98, 99] }), (.str { data := #[27, 91, 65] }), (.str { data := #[13] })]) (by
      intro g hg
      simp only [List.mem_cons, List.not_mem_nil, or_false] at hg
      rcases hg with rfl | rfl | rfl | rfl <;> exact ⟨_, rfl, by decide⟩) (n := 4) rfl (by decide) (m := 4) rfl
    obtain ⟨l, rfl⟩ : ∃ l, s = bs l := ⟨_, bs_eta s⟩
    rw [bs_size] at hs
    obtain ⟨f1, f2, f3⟩ := fin (k := 1) (c := (a : Nat)) (q := 1 + (b : Int)) (l := l) ((d2.trans d3).trans d4)
    have gf2 : gfill (fun i => ([(0, 1), (1, 1), (2, 1), (3, 1)] : List (Nat × Nat))[i]?) zeroE [(0, (.int .i64 1)), (1, .int .i64 (a : Nat)), (2, .int .i64 (1 + (b : Int))), (3, .str (bs l))] = some (entC 1 (a : Nat) (1 + (b : Int)) l) := by rfl
    refine ⟨1, (a : Nat), 1 + (b : Int), l, _, ?_, by omega, f3⟩
    apply S.spec_l18DrawEntry.gives (k := 0)
    generalize GV.str (bs l) = L at *
    generalize GV.int .i64 (1 + (b : Int)) = B1 at *
    generalize GV.int .i64 (a : Nat) = A at *
    generalize GV.int .i64 (b : Nat) = B at *
    have z0 : kbin .eql (.int .i64 (x : Nat)) (.int .i64 0) = some (.bool (decide (x = 0))) := by rw [kbin_eql]; congr 2; rw [Bool.eq_iff_iff, decide_eq_true_eq, decide_eq_true_eq]; omega
    have z1 : kbin .eql (.int .i64 (x : Nat)) (.int .i64 1) = some (.bool (decide (x = 1))) := by rw [kbin_eql]; congr 2; rw [Bool.eq_iff_iff, decide_eq_true_eq, decide_eq_true_eq]; omega
    generalize GV.int .i64 (x : Nat) = X at *
    rcases h01 with h | h
    · rw [decide_eq_true h] at z0
      simp only [S.spec_l18DrawEntry.run, S.spec_l18DrawEntry.n0, ka, S.spec_l18DrawEntry.n1, S.spec_l18DrawEntry.n9, e1, Option.bind_some, kr_mk, S.spec_l18DrawEntry.n10, S.spec_l18DrawEntry.n11, z0, kcond_bool, cond_true, S.spec_l18DrawEntry.n12, e2, e3, ad, Nat.mul_one, gf, kbs_at', e4, k1, k2, gf2, kg, f1, kb_ret, kx_ret, kend_ret, f2, finH]
    · have h0 : ¬ x = 0 := by omega
      rw [decide_eq_false h0] at z0
      rw [decide_eq_true h] at z1
      simp only [S.spec_l18DrawEntry.run, S.spec_l18DrawEntry.n0, ka, S.spec_l18DrawEntry.n1, S.spec_l18DrawEntry.n9, e1, Option.bind_some, kr_mk, S.spec_l18DrawEntry.n10, S.spec_l18DrawEntry.n11, z0, z1, kcond_bool, cond_true, cond_false, S.spec_l18DrawEntry.n12, e2, e3, ad, Nat.mul_one, gf, kbs_at', e4, k1, k2, gf2, kg, f1, kb_ret, kx_ret, kend_ret, f2, finH]
  have z0 : kbin .eql (.int .i64 (x : Nat)) (.int .i64 0) = some (.bool (decide (x = 0))) := by rw [kbin_eql]; congr 2; rw [Bool.eq_iff_iff, decide_eq_true_eq, decide_eq_true_eq]; omega
  have z1' : kbin .eql (.int .i64 (x : Nat)) (.int .i64 1) = some (.bool (decide (x = 1))) := by rw [kbin_eql]; congr 2; rw [Bool.eq_iff_iff, decide_eq_true_eq, decide_eq_true_eq]; omega
  have z2 : kbin .eql (.int .i64 (x : Nat)) (.int .i64 2) = some (.bool (decide (x = 2))) := by rw [kbin_eql]; congr 2; rw [Bool.eq_iff_iff, decide_eq_true_eq, decide_eq_true_eq]; omega
  by_cases h01 : x = 0 ∨ x = 1
  · exact keys h01
  rw [decide_eq_false (fun h => h01 (.inl h))] at z0
  rw [decide_eq_false (fun h => h01 (.inr h))] at z1'
  by_cases h2 : x = 2
  · rw [decide_eq_true h2] at z2
    obtain ⟨a, H2, e2, ha, d2⟩ := draw_nat hl d1.1 (n := 12) (by omega) (m := 12) rfl
    obtain ⟨b, H3, e3, hb, d3⟩ := draw_nat hl d2.1 (n := 5) (by omega) (m := 5) rfl
    have ad1 : kbin .add (.int .i64 4) (.int .i64 (a : Nat)) = some (.int .i64 (4 + (a : Int))) := by rw [kbin_add, wrap_id (by omega) (by omega)]
    have ad2 : kbin .add (.int .i64 1) (.int .i64 (b : Nat)) = some (.int .i64 (1 + (b : Int))) := by rw [kbin_add, wrap_id (by omega) (by omega)]
    obtain ⟨f1, f2, f3⟩ := fin (k := 3) (c := 4 + (a : Int)) (q := 1 + (b : Int)) (l := []) (d2.trans d3)
    have gf2 : gfill (fun i => ([(0, 1), (1, 1), (2, 1), (3, 1)] : List (Nat × Nat))[i]?) zeroE [(0, (.int .i64 3)), (1, .int .i64 (4 + (a : Int))), (2, .int .i64 (1 + (b : Int)))] = some (entC 3 (4 + (a : Int)) (1 + (b : Int)) []) := by rfl
    refine ⟨3, 4 + (a : Int), 1 + (b : Int), [], _, ?_, by simp, f3⟩
    apply S.spec_l18DrawEntry.gives (k := 0)
    generalize GV.int .i64 (1 + (b : Int)) = B1 at *
    generalize GV.int .i64 (4 + (a : Int)) = A4 at *
    generalize GV.int .i64 (a : Nat) = A at *
    generalize GV.int .i64 (b : Nat) = B at *
    generalize GV.int .i64 (x : Nat) = X at *
    simp only [S.spec_l18DrawEntry.run, S.spec_l18DrawEntry.n0, ka, S.spec_l18DrawEntry.n1, S.spec_l18DrawEntry.n9, e1, Option.bind_some, kr_mk, S.spec_l18DrawEntry.n10, S.spec_l18DrawEntry.n11, z0, z1', z2, kcond_bool, cond_true, cond_false, S.spec_l18DrawEntry.n12, e2, e3, ad1, ad2, gf2, kg, f1, kb_ret, kx_ret, kend_ret, f2, finH]
  · rw [decide_eq_false h2] at z2
    obtain ⟨s, H2, e2, hs, d2⟩ := spec_l6DrawText_spec hl d1.1
    have kl := klenS_bs s
    have lt : kbin .lss (.int .i64 (s.length : Nat)) (.int .i64 1) = some (.bool (decide (s.length < 1))) := by rw [kbin_lss]; congr 2; rw [Bool.eq_iff_iff, decide_eq_true_eq, decide_eq_true_eq]; omega
    have gt : kbin .gtr (.int .i64 (s.length : Nat)) (.int .i64 60) = some (.bool (decide (60 < s.length))) := by rw [kbin_gtr]; congr 2; rw [Bool.eq_iff_iff, decide_eq_true_eq, decide_eq_true_eq]; omega
    have gfl : ∀ l : List UInt8, gfill (fun i => ([(0, 1), (1, 1), (2, 1), (3, 1)] : List (Nat × Nat))[i]?) zeroE [(0, (.int .i64 2)), (3, .str (bs l))] = some (entC 2 0 0 l) := fun l => by rfl
    by_cases hbad : s.length < 1 ∨ 60 < s.length
    · obtain ⟨f1, f2, f3⟩ := fin (k := 2) (c := 0) (q := 0) (l := [111, 117, 116]) d2
      have gf2 : gfill (fun i => ([(0, 1), (1, 1), (2, 1), (3, 1)] : List (Nat × Nat))[i]?) zeroE [(0, (.int .i64 2)), (3, .str { data := #[111, 117, 116] })] = some (entC 2 0 0 [111, 117, 116]) := gfl [111, 117, 116]
      refine ⟨2, 0, 0, [111, 117, 116], _, ?_, by simp, f3⟩
      apply S.spec_l18DrawEntry.gives (k := 0)
      generalize GV.str (bs s) = Z at *
      generalize GV.int .i64 (s.length : Nat) = L at *
      generalize GV.int .i64 (x : Nat) = X at *
      rcases hbad with h | h
      · rw [decide_eq_true h] at lt
        simp only [S.spec_l18DrawEntry.run, S.spec_l18DrawEntry.n0, ka, S.spec_l18DrawEntry.n1, S.spec_l18DrawEntry.n9, e1, Option.bind_some, kr_mk, S.spec_l18DrawEntry.n10, S.spec_l18DrawEntry.n11, z0, z1', z2, kcond_bool, cond_true, cond_false, S.spec_l18DrawEntry.n12, kb_nrm, kx_nrm, S.spec_l18DrawEntry.n2, e2, S.spec_l18DrawEntry.n3, S.spec_l18DrawEntry.n5, S.spec_l18DrawEntry.n7, S.spec_l18DrawEntry.g7_0, kl, lt, S.spec_l18DrawEntry.g7_1, tr_bool, beq_false, Bool.not_true, beq_true, S.spec_l18DrawEntry.g7_2, kpick_bool, S.spec_l18DrawEntry.n6, S.spec_l18DrawEntry.n4, gf2, kg, f1, kend_ret, kx_ret, f2, finH]
      · by_cases h1 : s.length < 1
        · omega
        rw [decide_eq_false h1] at lt
        rw [decide_eq_true h] at gt
        simp only [S.spec_l18DrawEntry.run, S.spec_l18DrawEntry.n0, ka, S.spec_l18DrawEntry.n1, S.spec_l18DrawEntry.n9, e1, Option.bind_some, kr_mk, S.spec_l18DrawEntry.n10, S.spec_l18DrawEntry.n11, z0, z1', z2, kcond_bool, cond_true, cond_false, S.spec_l18DrawEntry.n12, kb_nrm, kx_nrm, S.spec_l18DrawEntry.n2, e2, S.spec_l18DrawEntry.n3, S.spec_l18DrawEntry.n5, S.spec_l18DrawEntry.n7, S.spec_l18DrawEntry.g7_0, kl, lt, S.spec_l18DrawEntry.g7_1, tr_bool, beq_false, Bool.not_false, beq_true, BEq.rfl, gt, S.spec_l18DrawEntry.g7_2, kpick_bool, S.spec_l18DrawEntry.n6, S.spec_l18DrawEntry.n4, gf2, kg, f1, kend_ret, kx_ret, f2, finH]
    · obtain ⟨f1, f2, f3⟩ := fin (k := 2) (c := 0) (q := 0) (l := s) d2
      have gf2 := gfl s
      refine ⟨2, 0, 0, s, _, ?_, hs, f3⟩
      rw [decide_eq_false (fun h => hbad (.inl h))] at lt
      rw [decide_eq_false (fun h => hbad (.inr h))] at gt
      apply S.spec_l18DrawEntry.gives (k := 0)
      generalize GV.str (bs s) = Z at *
      generalize GV.int .i64 (s.length : Nat) = L at *
      generalize GV.int .i64 (x : Nat) = X at *
      simp only [S.spec_l18DrawEntry.run, S.spec_l18DrawEntry.n0, ka, S.spec_l18DrawEntry.n1, S.spec_l18DrawEntry.n9, e1, Option.bind_some, kr_mk, S.spec_l18DrawEntry.n10, S.spec_l18DrawEntry.n11, z0, z1', z2, kcond_bool, cond_true, cond_false, S.spec_l18DrawEntry.n12, kb_nrm, kx_nrm, S.spec_l18DrawEntry.n2, e2, S.spec_l18DrawEntry.n3, S.spec_l18DrawEntry.n5, S.spec_l18DrawEntry.n7, S.spec_l18DrawEntry.g7_0, kl, lt, S.spec_l18DrawEntry.g7_1, tr_bool, beq_false, Bool.not_false, beq_true, BEq.rfl, gt, S.spec_l18DrawEntry.g7_2, kpick_bool, S.spec_l18DrawEntry.n6, S.spec_l18DrawEntry.n4, gf2, kg, f1, kend_ret, kx_ret, f2, finH]

theorem spec_l18DrawAny_spec {p : Nat} {code : List UInt8} {H : Heap} (hl : code.length ≤ 1048576) (hc : Cur p code H) : ∃ (k c q : Int) (l : List UInt8) (H' : Heap), HH fn.spec_l18DrawAny [.ptr p 0 3] H = some (ent k c q l, H') ∧ l.length ≤ 200 ∧ Dr p code H H' := by
  have hlt := hc.lt
  have c0 : Cur p code (H ++ [zeroE]) := hc.app
  have ka : ∀ {Q : Type} (h : Heap) (K : GV → Heap → Option Q), kalloc zeroE h K = K (.ptr h.length 0 4) (h ++ [zeroE]) := fun h K => rfl
  obtain ⟨k, c, q, l, H1, e1, hl1, d1⟩ := spec_l18DrawEntry_spec hl c0
  have z1 : H1[H.length]? = some zeroE := d1.get (by omega) (by simp)
  have n1 := d1.2.1
  simp only [List.length_append, List.length_singleton] at n1
  have sB : kstore 4 (H1 ++ [zeroE]) (.ptr H1.length 0 4) (ent k c q l) = some ((H1 ++ [zeroE]).set H1.length (entC k c q l)) := st4 (C := zeroE) (by simp) rfl rfl rfl
  obtain ⟨H2, hH2⟩ : ∃ H2, (H1 ++ [zeroE]).set H1.length (entC k c q l) = H2 := ⟨_, rfl⟩
  have b2 : H2[H1.length]? = some (entC k c q l) := by rw [← hH2]; exact set_get (c := zeroE) (by simp)
  have a2 : H2[H.length]? = some zeroE := by
    rw [← hH2, List.getElem?_set_ne (by omega), List.getElem?_append_left (by omega)]; exact z1
  have c2 : Cur p code H2 := by rw [← hH2]; exact (d1.1.app).keep (R := [H1.length]) (Fr.set (by simp)) (by simp; omega)
  have s2 : Sm p H.length H H2 := by
    rw [← hH2]
    exact (((Sm.of (R := []) Fr.app (Nat.le_refl _) (by intro i hi; cases hi)).trans (Sm.of d1.2 (by simp) (by intro i hi; simp at hi; exact .inl hi))).trans (Sm.of (R := []) Fr.app (by omega) (by intro i hi; cases hi))).trans (Sm.of (R := [H1.length]) (Fr.set (by simp)) (by simp; omega) (by intro i hi; simp at hi; omega))
  rw [hH2] at sB
  have n2 := s2.1
  have fin : ∀ {Hf : Heap} {k c q : Int} {l : List UInt8}, Cur p code Hf → Hf[H1.length]? = some (entC k c q l) → Hf[H.length]? = some zeroE → Sm p H.length H Hf → kloadA 4 Hf (.ptr H1.length 0 4) = some (ent k c q l) ∧ kstore 4 Hf (.ptr H.length 0 4) (ent k c q l) = some (Hf.set H.length (entC k c q l)) ∧ kloadA 4 (Hf.set H.length (entC k c q l)) (.ptr H.length 0 4) = some (ent k c q l) ∧ Dr p code H (Hf.set H.length (entC k c q l)) := fun {Hf k c q l} hcf hb ha hs =>
    ⟨ld4 hb rfl, st4 ha rfl rfl rfl, ld4 (set_get ha) rfl, hcf.keep (R := [H.length]) (Fr.set (by simp)) (by simp; omega), (hs.trans (Sm.of (R := [H.length]) (Fr.set (by simp)) (by have := hs.1; omega) (by intro i hi; simp at hi; omega))).fr⟩
  obtain ⟨b, H3, e3, d3⟩ := spec_l1Once_spec hl c2 12
  have b3 : H3[H1.length]? = some (entC k c q l) := d3.get (by omega) b2
  have a3 : H3[H.length]? = some zeroE := d3.get (by omega) a2
  have s3 : Sm p H.length H H3 := s2.trans (Sm.of d3.2 (by omega) (by intro i hi; simp at hi; exact .inl hi))
  cases b
  · obtain ⟨f1, f2, f3, f4⟩ := fin d3.1 b3 a3 s3
    refine ⟨k, c, q, l, _, ?_, hl1, f4⟩
    apply S.spec_l18DrawAny.gives (k := 0)
    generalize ent k c q l = E at *
    simp only [S.spec_l18DrawAny.run, S.spec_l18DrawAny.n0, ka, S.spec_l18DrawAny.n1, e1, Option.bind_some, kr_mk, sB, S.spec_l18DrawAny.n2, S.spec_l18DrawAny.n4, e3, S.spec_l18DrawAny.n5, kcond_bool, cond_false, S.spec_l18DrawAny.n10, kx_nrm, S.spec_l18DrawAny.n3, f1, f2, kx_ret, kend_ret, f3, finH]
  obtain ⟨x, H4, e4, hx, d4⟩ := draw_nat hl d3.1 (n := 4) (by omega) (m := 4) rfl
  have b4 : H4[H1.length]? = some (entC k c q l) := d4.get (by omega) b3
  have a4 : H4[H.length]? = some zeroE := d4.get (by omega) a3
  have s4 : Sm p H.length H H4 := s3.trans (Sm.of d4.2 (by have := s3.1; omega) (by intro i hi; simp at hi; exact .inl hi))
  /- one cell of the entry is written -/
  have cell : ∀ {H5 : Heap} {o : Nat} {y : GV}, Dr p code H4 H5 → o < 4 → y.cells = [y] → y.isCell = true → kstore 1 H5 (.ptr H1.length o 4) y = some (H5.set H1.length ((entC k c q l).set o y)) ∧ (H5.set H1.length ((entC k c q l).set o y))[H1.length]? = some ((entC k c q l).set o y) ∧ (H5.set H1.length ((entC k c q l).set o y))[H.length]? = some zeroE ∧ Cur p code (H5.set H1.length ((entC k c q l).set o y)) ∧ Sm p H.length H (H5.set H1.length ((entC k c q l).set o y)) := fun {H5 o y} d ho hy hi => by
    have b5 : H5[H1.length]? = some (entC k c q l) := d.get (by omega) b4
    have a5 : H5[H.length]? = some zeroE := d.get (by omega) a4
    have n4 := s4.1
    have n5 := d.2.1
    exact ⟨kstore_at b5 rfl ho hy hi, set_get b5, by rw [List.getElem?_set_ne (by omega)]; exact a5, d.1.keep (R := [H1.length]) (Fr.set (by simp)) (by simp; omega), (s4.trans (Sm.of d.2 (by omega) (by intro i hi; simp at hi; exact .inl hi))).trans (Sm.of (R := [H1.length]) (Fr.set (by simp)) (by omega) (by intro i hi; simp at hi; omega))⟩
  have run : ∀ {k' c' q' : Int} {l' : List UInt8} {Hf : Heap}, Cur p code Hf → Hf[H1.length]? = some (entC k' c' q' l') → Hf[H.length]? = some zeroE → Sm p H.length H Hf → l'.length ≤ 200 →
      (∀ {Q : Type} (G : KT2 Q), S.spec_l18DrawAny.n7 0 G (.ptr p 0 3) (.ptr H.length 0 4) (.ptr H1.length 0 4) (.int .i64 (x : Nat)) H4 = G .nrm (.ptr H.length 0 4) (.ptr H1.length 0 4) Hf) →
      ∃ (k c q : Int) (l : List UInt8) (H' : Heap), HH fn.spec_l18DrawAny [.ptr p 0 3] H = some (ent k c q l, H') ∧ l.length ≤ 200 ∧ Dr p code H H' := fun {k' c' q' l' Hf} h1 h2 h3 h4 h5 h6 => by
    obtain ⟨f1, f2, f3, f4⟩ := fin h1 h2 h3 h4
    refine ⟨k', c', q', l', _, ?_, h5, f4⟩
    apply S.spec_l18DrawAny.gives (k := 0)
    generalize ent k c q l = E at *
    generalize ent k' c' q' l' = E' at *
    generalize GV.int .i64 (x : Nat) = X at *
    simp only [S.spec_l18DrawAny.run, S.spec_l18DrawAny.n0, ka, S.spec_l18DrawAny.n1, e1, Option.bind_some, kr_mk, sB, S.spec_l18DrawAny.n2, S.spec_l18DrawAny.n4, e3, S.spec_l18DrawAny.n5, kcond_bool, cond_true, S.spec_l18DrawAny.n6, e4, h6, kx_nrm, S.spec_l18DrawAny.n3, f1, f2, kx_ret, kend_ret, f3, finH]
  have z : ∀ j : Nat, kbin .eql (.int .i64 (x : Nat)) (.int .i64 (j : Nat)) = some (.bool (decide (x = j))) := fun j => by rw [kbin_eql]; congr 2; rw [Bool.eq_iff_iff, decide_eq_true_eq, decide_eq_true_eq]; omega
  have z0 : kbin .eql (.int .i64 (x : Nat)) (.int .i64 0) = some (.bool (decide (x = 0))) := z 0
  have z1' : kbin .eql (.int .i64 (x : Nat)) (.int .i64 1) = some (.bool (decide (x = 1))) := z 1
  have z2 : kbin .eql (.int .i64 (x : Nat)) (.int .i64 2) = some (.bool (decide (x = 2))) := z 2
  have z3 : kbin .eql (.int .i64 (x : Nat)) (.int .i64 3) = some (.bool (decide (x = 3))) := z 3
  have c4 : x = 0 ∨ x = 1 ∨ x = 2 ∨ x = 3 := by omega
  rcases c4 with rfl | rfl | rfl | rfl
  · obtain ⟨n, H5, e5, d5⟩ := spec_l1From_spec hl d4.1
    obtain ⟨g1, g2, g3, g4, g5⟩ := cell (o := 0) (y := .int .i64 n) d5 (by omega) rfl rfl
    refine run (k' := n) (c' := c) (q' := q) (l' := l) g4 g2 g3 g5 hl1 fun G => ?_
    simp only [S.spec_l18DrawAny.n7, S.spec_l18DrawAny.n8, z0, decide_true, Option.bind_some, kcond_bool, cond_true, e5, kr_mk, kfa_ptr, Nat.zero_add, Nat.add_zero, g1, kb_nrm]
  · have gf : gfill (fun i => some (i, 1)) (zeros [(.int .i64 0)] 6) [(0, (.int .i64 (-1))), (1, (.int .i64 0)), (2, (.int .i64 3)), (3, (.int .i64 4)), (4, (.int .i64 60)), (5, (.int .i64 61))] = some (([-1, 0, 3, 4, 60, 61] : List Int).map (GV.int .i64)) := by rfl
    obtain ⟨x5, H5, q5, g, e5, k1, k2, ⟨n, rfl⟩, d5⟩ := draw_tab hl d4.1 (P := fun g => ∃ n : Int, g = .int .i64 n) (T := ([-1, 0, 3, 4, 60, 61] : List Int).map (GV.int .i64)) (by
      intro g hg
      obtain ⟨n, _, rfl⟩ := List.mem_map.1 hg
      exact ⟨n, rfl⟩) (n := 6) rfl (by decide) (m := 6) rfl
    obtain ⟨g1, g2, g3, g4, g5⟩ := cell (o := 1) (y := .int .i64 n) d5 (by omega) rfl rfl
    refine run (k' := k) (c' := n) (q' := q) (l' := l) g4 g2 g3 g5 hl1 fun G => ?_
    generalize ([-1, 0, 3, 4, 60, 61] : List Int).map (GV.int .i64) = T at *
    simp only [S.spec_l18DrawAny.n7, S.spec_l18DrawAny.n8, z0, z1', decide_true, decide_false, reduceCtorEq, Nat.one_ne_zero, Option.bind_some, kcond_bool, cond_true, cond_false, Nat.mul_one, gf, kbs_at', e5, kr_mk, k1, k2, kfa_ptr, Nat.zero_add, Nat.add_zero, g1, kb_nrm]
  · have gf : gfill (fun i => some (i, 1)) (zeros [(.int .i64 0)] 6) [(0, (.int .i64 0)), (1, (.int .i64 30)), (2, (.int .i64 31)), (3, (.int .i64 10000)), (4, (.int .i64 10001)), (5, (.int .i64 (-9223372036854775808)))] = some (([0, 30, 31, 10000, 10001, -9223372036854775808] : List Int).map (GV.int .i64)) := by rfl
    obtain ⟨x5, H5, q5, g, e5, k1, k2, ⟨n, rfl⟩, d5⟩ := draw_tab hl d4.1 (P := fun g => ∃ n : Int, g = .int .i64 n) (T := ([0, 30, 31, 10000, 10001, -9223372036854775808] : List Int).map (GV.int .i64)) (by
      intro g hg
      obtain ⟨n, _, rfl⟩ := List.mem_map.1 hg
      exact ⟨n, rfl⟩) (n := 6) rfl (by decide) (m := 6) rfl
    obtain ⟨g1, g2, g3, g4, g5⟩ := cell (o := 2) (y := .int .i64 n) d5 (by omega) rfl rfl
    refine run (k' := k) (c' := c) (q' := n) (l' := l) g4 g2 g3 g5 hl1 fun G => ?_
    have h20 : ¬ (2 = 0) := by omega
    have h21 : ¬ (2 = 1) := by omega
    rw [decide_eq_false h20] at z0
    rw [decide_eq_false h21] at z1'
    generalize ([0, 30, 31, 10000, 10001, -9223372036854775808] : List Int).map (GV.int .i64) = T at *
    simp only [S.spec_l18DrawAny.n7, S.spec_l18DrawAny.n8, z0, z1', z2, decide_true, Option.bind_some, kcond_bool, cond_true, cond_false, Nat.mul_one, gf, kbs_at', e5, kr_mk, k1, k2, kfa_ptr, Nat.zero_add, Nat.add_zero, g1, kb_nrm]
  · have gf : gfill (fun i => some (i, 1)) (zeros [(.int .i64 0)] 5) [(0, (.int .i64 0)), (1, (.int .i64 20)), (2, (.int .i64 21)), (3, (.int .i64 60)), (4, (.int .i64 61))] = some (([0, 20, 21, 60, 61] : List Nat).map fun n => GV.int .i64 (n : Nat)) := by rfl
    obtain ⟨x5, H5, q5, g, e5, k1, k2, ⟨n, rfl, hn⟩, d5⟩ := draw_tab hl d4.1 (P := fun g => ∃ n : Nat, g = .int .i64 (n : Nat) ∧ n ≤ 61) (T := ([0, 20, 21, 60, 61] : List Nat).map fun n => GV.int .i64 (n : Nat)) (by
      intro g hg
      obtain ⟨n, hn, rfl⟩ := List.mem_map.1 hg
      have ok : ∀ n ∈ ([0, 20, 21, 60, 61] : List Nat), n ≤ 61 := by decide
      exact ⟨n, rfl, ok n hn⟩) (n := 5) rfl (by decide) (m := 5) rfl
    have mk := make_bytes (H := H5) (m := n) (by omega) (x := (n : Nat)) rfl
    have st : kbstr (H5 ++ [(List.replicate n (0 : UInt8)).flatMap cy]) (.sl H5.length 0 n n 1) = some (.str (bs (List.replicate n 0))) :=
      kbstr_at (rest := []) (R := []) (l := List.replicate n 0) (by simp) (by simp) (by simp)
    obtain ⟨g1, g2, g3, g4, g5⟩ := cell (o := 3) (y := .str (bs (List.replicate n 0))) (d5.trans (Dr.app (T := [(List.replicate n (0 : UInt8)).flatMap cy]) d5.1)) (by omega) rfl rfl
    refine run (k' := k) (c' := c) (q' := q) (l' := List.replicate n 0) g4 g2 g3 g5 (by rw [List.length_replicate]; omega) fun G => ?_
    have h30 : ¬ (3 = 0) := by omega
    have h31 : ¬ (3 = 1) := by omega
    have h32 : ¬ (3 = 2) := by omega
    rw [decide_eq_false h30] at z0
    rw [decide_eq_false h31] at z1'
    rw [decide_eq_false h32] at z2
    generalize (([0, 20, 21, 60, 61] : List Nat).map fun n => GV.int .i64 (n : Nat)) = T at *
    generalize GV.str (bs (List.replicate n 0)) = Z at *
    generalize (List.replicate n (0 : UInt8)).flatMap cy = W at *
    simp only [S.spec_l18DrawAny.n7, S.spec_l18DrawAny.n8, z0, z1', z2, z3, decide_true, Option.bind_some, kcond_bool, cond_true, cond_false, Nat.mul_one, gf, kbs_at', e5, kr_mk, k1, k2, mk, st, kfa_ptr, Nat.zero_add, Nat.add_zero, g1, kb_nrm]
end Go.Proofs.YtklhdbkaejbajaaDoor.G
