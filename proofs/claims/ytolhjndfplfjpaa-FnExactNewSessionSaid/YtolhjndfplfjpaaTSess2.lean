/- A new session: both make the same. -/
import Derived.Test.YtolhjndfplfjpaaTSess
namespace Go.Proofs.Ytolhjndfplfjpaa.G
open Go.RowKit
set_option linter.unusedVariables false
set_option linter.unusedSimpArgs false

abbrev SessT := TermT × ByteArray × List Int × Int
def sessM : SessT := (termM 20 5, { data := #[] }, [0, 0, 0, 0], 0)
abbrev zSess0 : List GV := [.int .i64 0, .nils, .int .i64 0, .nils, .int .i64 0, .int .i64 0, .int .i64 0, .int .i64 0, .bool false, .bool false, .bool false, .int .i64 0, .int .i64 0, .bool false, .bool false, .bool false, .bool false, .int .i64 0, .int .i64 0, .int .i64 0, .int .i64 0, .bool false, .bool false, .bool false, .nils, .int .i64 0, .nils, .int .i64 0, .nils, .str { data := #[] }, .str { data := #[] }, .nils, .int .i64 0]
theorem termM_ok (c n : Nat) (hc : c ≤ 60) (hn : n ≤ 30) : okTerm (termM c n) := by
  have g := gridM_ok c n hc hn
  exact ⟨g, g, trivial, trivial, Nat.zero_le _, ⟨Nat.zero_le _, Nat.zero_le _⟩, Nat.zero_le _⟩
theorem sess_rel {H : Heap} {g : List GV} {b : Nat} {R : List Nat} (h1 : rTerm H g (termM 20 5) R) (h2 : H[b]? = some [.int .i64 0, .int .i64 0, .int .i64 0, .int .i64 0]) : rSession H (g ++ [.str { data := #[] }, .sl b 0 4 4 1, .int .i64 0]) sessM (R ++ [b]) := by
  refine ⟨g, [.str { data := #[] }, .sl b 0 4 4 1, .int .i64 0], R, [b], rfl, rfl, h1, [.str { data := #[] }], [.sl b 0 4 4 1, .int .i64 0], [], [b], rfl, rfl, ⟨rfl, rfl⟩, [.sl b 0 4 4 1], [.int .i64 0], [b], [], rfl, rfl, ?_, ⟨rfl, rfl⟩⟩
  exact rNewS (mk := ci) (es := 1) (xs := [0, 0, 0, 0]) (by simpa using h2)
theorem sess_make {H : Heap} : kmake [.int .i64 0] 1 8 (.int .i64 4) (.int .i64 4) H = some (.sl H.length 0 4 4 1, H ++ [[.int .i64 0, .int .i64 0, .int .i64 0, .int .i64 0]]) := by
  unfold kmake
  simp only [kint_int, Option.bind_some]
  rw [if_pos ⟨by omega, Int.le_refl _, by simp only [maxLen]; omega, by simp only [roomMax]; omega, rfl⟩]
  rfl
/-- What both leave. -/
theorem sess_fin {H3 : Heap} {g : List GV} {R1 : List Nat} {u v : Nat} (r3 : rTerm H3 g (termM 20 5) R1) (n1 : R1.Nodup) (b1 : Bd R1 u v) (hu : 0 < u) {b : Nat} (hb : v ≤ b) (Z : H3[0]? = some zSess0) (B : H3[b]? = some [.int .i64 0, .int .i64 0, .int .i64 0, .int .i64 0]) (b0 : 0 < b) :
    ∃ H4, kstore 33 H3 (.ptr 0 0 33) (.agg (g ++ [.str { data := #[] }, .sl b 0 4 4 1, .int .i64 0])) = some H4 ∧ kloadA 33 H4 (.ptr 0 0 33) = some (.agg (g ++ [.str { data := #[] }, .sl b 0 4 4 1, .int .i64 0])) ∧ rSession H4 (g ++ [.str { data := #[] }, .sl b 0 4 4 1, .int .i64 0]) sessM (R1 ++ [b]) ∧ (R1 ++ [b]).Nodup := by
  have gl := goodTerm.len r3
  have gc := goodTerm.cell r3
  have s4 := kstoreA_at (n := 33) Z rfl (c' := g ++ [.str { data := #[] }, .sl b 0 4 4 1, .int .i64 0]) (by rw [List.length_append, gl]; rfl) (by rw [List.all_append, gc]; rfl)
  have hl3 := (List.getElem?_eq_some_iff.1 Z).1
  refine ⟨_, s4, kloadA_at (n := 33) (List.getElem?_set_self hl3) (by rw [List.length_append, gl]; rfl), ?_, ?_⟩
  · refine sess_rel (goodTerm.keep r3 (R' := [0]) (Fr.set (by simp)) fun i hi h => ?_) ?_
    · have := b1 i hi; rw [List.mem_singleton] at h; omega
    · rw [List.getElem?_set_ne (by omega)]; exact B
  · rw [List.nodup_append]
    exact ⟨n1, by simp, fun i hi k hk e => by have := b1 i hi; rw [List.mem_singleton] at hk; omega⟩
theorem sess_fill {g : List GV} (hg : g.length = 30) {b : Nat} : gfill (fun i => ([(0, 30), (30, 1), (31, 1), (32, 1)] : List (Nat × Nat))[i]?) zSess0 [(0, .agg g), (2, .sl b 0 4 4 1)] = some (g ++ [.str { data := #[] }, .sl b 0 4 4 1, .int .i64 0]) := by
  have e : splice zSess0 0 g = g ++ [.str { data := #[] }, .nils, .int .i64 0] := by
    unfold splice
    rw [hg]
    rfl
  have e2 : splice (g ++ [.str { data := #[] }, .nils, .int .i64 0]) 31 [.sl b 0 4 4 1] = g ++ [.str { data := #[] }, .sl b 0 4 4 1, .int .i64 0] := by
    unfold splice
    rw [List.take_append, List.take_of_length_le (by omega), List.drop_append, List.drop_of_length_le (by simp; omega), hg]
    simp
  unfold gfill
  simp only [List.getElem?_cons_zero]
  rw [if_pos ⟨by rw [cells_agg]; exact hg, by rw [cells_agg, hg]; decide⟩, cells_agg, e]
  unfold gfill
  simp only [List.getElem?_cons_zero, List.getElem?_cons_succ]
  rw [if_pos ⟨rfl, by rw [List.length_append, hg, cells_sl]; simp⟩, cells_sl, e2]
  rfl
/-- The new session is laid. -/
theorem sess_body {f : FuncId} (hf : ∀ b, ∃ g bl, OO f [.int .i64 ((20 : Nat) : Int), .int .i64 ((5 : Nat) : Int)] b = some (.agg g, bl) ∧ ∀ H T, H.length = b → rTerm (H ++ bl ++ T) g (termM 20 5) (List.range' b bl.length)) :
    ∃ g H1 H2 H4 c R, kF false HH f [.int .i64 20, .int .i64 5] [zSess0] = some (.agg g, H1) ∧ kmake [.int .i64 0] 1 8 (.int .i64 4) (.int .i64 4) H1 = some (.sl H1.length 0 4 4 1, H2) ∧ gfill (fun i => ([(0, 30), (30, 1), (31, 1), (32, 1)] : List (Nat × Nat))[i]?) zSess0 [(0, .agg g), (2, .sl H1.length 0 4 4 1)] = some c ∧ kstore 33 H2 (.ptr 0 0 33) (.agg c) = some H4 ∧ kloadA 33 H4 (.ptr 0 0 33) = some (.agg c) ∧ rSession H4 c sessM R ∧ R.Nodup := by
  obtain ⟨H0, hH0⟩ : ∃ H0 : Heap, [zSess0] = H0 := ⟨_, rfl⟩
  have Z0 : H0[0]? = some zSess0 := by rw [← hH0]; rfl
  have l0 : H0.length = 1 := by rw [← hH0]; rfl
  obtain ⟨g, R1, H1, t1, r1, n1, b1, f1, l1⟩ := fresh_agg goodTerm (f := f) (args := [.int .i64 ((20 : Nat) : Int), .int .i64 ((5 : Nat) : Int)]) (xs := [.int .i64 ((20 : Nat) : Int), .int .i64 ((5 : Nat) : Int)]) (H := H0) (by simp) (hf H0.length)
  have f2 : Fr [] H1 (H1 ++ [[GV.int .i64 0, .int .i64 0, .int .i64 0, .int .i64 0]]) := .app
  have r2 := goodTerm.keep r1 f2 (fun _ _ => no_nil)
  have Z2 := f2.blk (f1.blk Z0 no_nil) no_nil
  have l2 := f1.1
  obtain ⟨H4, s4, l4, r4, n4⟩ := sess_fin r2 n1 b1 (by omega) (b := H1.length) (Nat.le_refl _) Z2 (by simp) (by omega)
  rw [hH0]
  exact ⟨g, H1, _, H4, _, _, t1, sess_make, sess_fill (goodTerm.len r1), s4, l4, r4, n4⟩
theorem impl_NewSession_spec (b : Nat) : ∃ g bl, OO fn.impl_NewSession [] b = some (.agg g, bl) ∧ ∀ H T, H.length = b → rSession (H ++ bl ++ T) g sessM (List.range' b bl.length) := by
  obtain ⟨g, H1, H2, H4, c, R, t1, t2, t3, t4, t5, r, nd⟩ := sess_body (f := fn.impl_newTerm) (fun b => impl_newTerm_spec 20 5 (by omega) (by omega) (by omega) (by omega) b)
  obtain ⟨g', bl, e1, e2⟩ := goodSession.finS (by omega) r nd b
  refine ⟨g', bl, S.impl_NewSession.gives (k := 0) ?_, e2⟩
  have hal : ∀ {Q : Type} (K : GV → Heap → Option Q), kalloc zSess0 [] K = K (.ptr 0 0 33) [zSess0] := fun K => rfl
  have kg : ∀ {Q : Type} (E : List GV) (h : Heap) (K : GV → Heap → Option Q), kagg E h K = K (.agg E) h := fun E h K => rfl
  simp only [S.impl_NewSession.run, S.impl_NewSession.n0, hal, t1, Option.bind_some, kr_mk, t2, t3, kg, t4, kend_ret, t5, e1]
theorem rSession_frz {d : Nat} {h : Heap} : ∀ c x R, rSession h c x R → Frz (d + 3) h c (mSession false x) :=
  RSeq.frz rTerm_frz (RSeq.frz (flat_frz (fun _ => rfl)) (RSeq.frz rInt_frz (flat_frz (fun _ => rfl))))
theorem spec_NewSession_spec : NN fn.spec_NewSession [] = some (.agg (mSession false sessM)) := by
  obtain ⟨g, H1, H2, H4, c, R, t1, t2, t3, t4, t5, r, nd⟩ := sess_body (f := fn.spec_l7New) (fun b => spec_l7New_spec 20 5 (by omega) (by omega) (by omega) (by omega) b)
  have e1 : finN (.agg c) H4 = some (.agg (mSession false sessM)) := finN_of (frz_agg (rSession_frz (d := 5) _ _ _ r))
  refine S.spec_NewSession.gives (k := 0) ?_
  have hal : ∀ {Q : Type} (K : GV → Heap → Option Q), kalloc zSess0 [] K = K (.ptr 0 0 33) [zSess0] := fun K => rfl
  have kg : ∀ {Q : Type} (E : List GV) (h : Heap) (K : GV → Heap → Option Q), kagg E h K = K (.agg E) h := fun E h K => rfl
  simp only [S.spec_NewSession.run, S.spec_NewSession.n0, hal, t1, Option.bind_some, kr_mk, t2, t3, kg, t4, kend_ret, t5, e1]
theorem sessM_ok : okSession sessM := ⟨termM_ok 20 5 (by omega) (by omega), by decide, by decide⟩
open Classical in
theorem eqSession_self (x : SessT) (hx : okSession x) : NN fn.laws_eqSession [.agg (mSession true x), .agg (mSession true x)] = some (.bool true) := by
  obtain ⟨⟨⟨a1, a2⟩, ⟨b1, b2⟩, a3, a4, ⟨c1, c2, c3, c4, c5⟩, a6, a7, a8, a9, a10, a11, a12, a13, ⟨d1, d2, d3, d4, d5⟩, a15, ⟨e1, e2, e3, e4⟩, a17⟩, f1, f2, f3⟩ := x
  have := laws_eqSession_spec a1 a1 a2 a2 b1 b1 b2 b2 a3 a3 a4 a4 c1 c1 c2 c2 c3 c3 c4 c4 c5 c5 a6 a6 a7 a7 a8 a8 a9 a9 a10 a10 a11 a11 a12 a12 a13 a13 d1 d1 d2 d2 d3 d3 d4 d4 d5 d5 a15 a15 e1 e1 e2 e2 e3 e3 e4 e4 a17 a17 f1 f1 f2 f2 f3 f3 hx
  rw [decide_eq_true rfl] at this
  exact this
end Go.Proofs.Ytolhjndfplfjpaa.G
