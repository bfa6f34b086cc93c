/- Draws: keys, counts, runes, texts, texts that are bent. -/
import Derived.Test.YtklhdbkaejbajaaDoorTDraw2
namespace Go.Proofs.YtklhdbkaejbajaaDoor.G
open Go.RowKit Go.Lib
set_option linter.unusedVariables false
set_option linter.unusedSimpArgs false

theorem kbs_at' {Q : Type} {len es : Nat} {c : List GV} {H : Heap} {K : GV → Heap → Option Q} : kbs len es c H K = K (.sl H.length 0 len len es) (H ++ [c]) := rfl
/-- One out of a table. -/
theorem draw_tab {p : Nat} {code : List UInt8} {H : Heap} (hl : code.length ≤ 1048576) (hc : Cur p code H) {P : GV → Prop} {T : List GV} (hP : ∀ g ∈ T, P g) {n : Nat} (hn : T.length = n) (h0 : 0 < n) {m : Int} (hm : m = (n : Int)) :
    ∃ (x : Int) (H' : Heap) (q g : GV), HH fn.spec_l1Below [.ptr p 0 3, .int .i64 m] (H ++ [T]) = some (.int .i64 x, H') ∧ kia 1 (.sl H.length 0 n n 1) (.int .i64 x) = some q ∧ kload1 H' q = some g ∧ P g ∧ Dr p code H H' := by
  subst hm
  obtain ⟨x, H2, e2, x0, _, x1, d2⟩ := spec_l1Below_spec hl (hc.app (T := [T])) n
  have hlt := hc.lt
  have ht : H2[H.length]? = some T := d2.get (by omega) (by simp)
  obtain ⟨q, g, k1, k2, k3⟩ := tab hP ht hn x0 (x1 (by omega))
  exact ⟨x, H2, q, g, e2, k1, k2, k3, (Dr.app hc).trans d2⟩

theorem spec_l14DrawKey_spec {p : Nat} {code : List UInt8} {H : Heap} (hl : code.length ≤ 1048576) (hc : Cur p code H) : ∃ (l : List UInt8) (H' : Heap), HH fn.spec_l14DrawKey [.ptr p 0 3] H = some (.str (bs l), H') ∧ l.length ≤ 17 ∧ Dr p code H H' := by
  obtain ⟨b, H1, e1, d1⟩ := spec_l1Once_spec hl hc 12
  cases b
  · have gf : gfill (fun i => some (i, 1)) (zeros [(.str { data := #[] })] 2) [(0, (.str { data := #[107, 107, 107, 107, 107, 107, 107, 107, 107, 107, 107, 107, 107, 107, 107, 107] })), (1, (.str { data := #[48, 49, 50, 51, 52, 53, 54, 55, 56, 57, 97, 98, 99, 100, 101, 102] }))] = some [(.str { data := #[107, 107, 107, 107, 107, 107, 107, 107, 107, 107, 107, 107, 107, 107, 107, 107] }), (.str { data := #[48, 49, 50, 51, 52, 53, 54, 55, 56, 57, 97, 98, 99, 100, 101, 102] })] := by rfl
    obtain ⟨x, H2, q, g, e2, k1, k2, ⟨s, rfl, hs⟩, d2⟩ := draw_tab hl d1.1 (P := fun g => ∃ s : ByteArray, g = .str s ∧ s.size ≤ 17) (T := [(.str { data := #[107, 107, 107, 107, 107, 107, 107, 107, 107, 107, 107, 107, 107, 107, 107, 107] }), (.str { data := #[48, 49, 50, 51, 52, 53, 54, 55, 56, 57, 97, 98, 99, 100, 101, 102] })]) (by
      intro g hg
      simp only [List.mem_cons, List.not_mem_nil, or_false] at hg
      rcases hg with rfl | rfl <;> exact ⟨_, rfl, by decide⟩) (n := 2) rfl (by decide) (m := 2) rfl
    obtain ⟨l, rfl⟩ : ∃ l, s = bs l := ⟨_, bs_eta s⟩
    rw [bs_size] at hs
    refine ⟨l, H2, ?_, hs, d1.trans d2⟩
    apply S.spec_l14DrawKey.gives (k := 0)
    simp [S.spec_l14DrawKey.run, e1, gf, kbs_at', e2, k1, k2, finH, -kia_sl]
  · have gf : gfill (fun i => some (i, 1)) (zeros [(.str { data := #[] })] 3) [(0, (.str { data := #[] })), (1, (.str { data := #[107] })), (2, (.str { data := #[48, 49, 50, 51, 52, 53, 54, 55, 56, 57, 97, 98, 99, 100, 101, 102, 103] }))] = some [(.str { data := #[] }), (.str { data := #[107] }), (.str { data := #[48, 49, 50, 51, 52, 53, 54, 55, 56, 57, 97, 98, 99, 100, 101, 102, 103] })] := by rfl
    obtain ⟨x, H2, q, g, e2, k1, k2, ⟨s, rfl, hs⟩, d2⟩ := draw_tab hl d1.1 (P := fun g => ∃ s : ByteArray, g = .str s ∧ s.size ≤ 17) (T := [(.str { data := #[] }), (.str { data := #[107] }), (.str { data := #[48, 49, 50, 51, 52, 53, 54, 55, 56, 57, 97, 98, 99, 100, 101, 102, 103] })]) (by
      intro g hg
      simp only [List.mem_cons, List.not_mem_nil, or_false] at hg
      rcases hg with rfl | rfl | rfl <;> exact ⟨_, rfl, by decide⟩) (n := 3) rfl (by decide) (m := 3) rfl
    obtain ⟨l, rfl⟩ : ∃ l, s = bs l := ⟨_, bs_eta s⟩
    rw [bs_size] at hs
    refine ⟨l, H2, ?_, hs, d1.trans d2⟩
    apply S.spec_l14DrawKey.gives (k := 0)
    simp [S.spec_l14DrawKey.run, e1, gf, kbs_at', e2, k1, k2, finH, -kia_sl]

theorem spec_l14DrawCount_spec {p : Nat} {code : List UInt8} {H : Heap} (hl : code.length ≤ 1048576) (hc : Cur p code H) : ∃ (n : Int) (H' : Heap), HH fn.spec_l14DrawCount [.ptr p 0 3] H = some (.int .i64 n, H') ∧ Dr p code H H' := by
  obtain ⟨b, H1, e1, d1⟩ := spec_l1Once_spec hl hc 8
  cases b
  · obtain ⟨x, H2, e2, _, _, _, d2⟩ := spec_l1Below_spec hl d1.1 1000
    refine ⟨x, H2, ?_, d1.trans d2⟩
    apply S.spec_l14DrawCount.gives (k := 0)
    simp [S.spec_l14DrawCount.run, e1, e2, finH]
  · have gf : gfill (fun i => some (i, 1)) (zeros [(.int .i64 0)] 6) [(0, (.int .i64 (-1))), (1, (.int .i64 0)), (2, (.int .i64 1099511627776)), (3, (.int .i64 1099511627777)), (4, (.int .i64 (-9223372036854775808))), (5, (.int .i64 4611686018427387904))] = some [(.int .i64 (-1)), (.int .i64 0), (.int .i64 1099511627776), (.int .i64 1099511627777), (.int .i64 (-9223372036854775808)), (.int .i64 4611686018427387904)] := by rfl
    obtain ⟨x, H2, q, g, e2, k1, k2, ⟨n, rfl⟩, d2⟩ := draw_tab hl d1.1 (P := fun g => ∃ n : Int, g = .int .i64 n) (T := [(.int .i64 (-1)), (.int .i64 0), (.int .i64 1099511627776), (.int .i64 1099511627777), (.int .i64 (-9223372036854775808)), (.int .i64 4611686018427387904)]) (by
      intro g hg
      simp only [List.mem_cons, List.not_mem_nil, or_false] at hg
      rcases hg with rfl | rfl | rfl | rfl | rfl | rfl <;> exact ⟨_, rfl⟩) (n := 6) rfl (by decide) (m := 6) rfl
    refine ⟨n, H2, ?_, d1.trans d2⟩
    apply S.spec_l14DrawCount.gives (k := 0)
    simp [S.spec_l14DrawCount.run, e1, gf, kbs_at', e2, k1, k2, finH, -kia_sl]

theorem spec_l1DrawRune_spec {p : Nat} {code : List UInt8} {H : Heap} (hl : code.length ≤ 1048576) (hc : Cur p code H) : ∃ (n : Int) (H' : Heap), HH fn.spec_l1DrawRune [.ptr p 0 3] H = some (.int .i64 n, H') ∧ Dr p code H H' := by
  have gf : gfill (fun i => some (i, 1)) (zeros [(.int .i64 0)] 12) [(0, (.int .i64 65)), (1, (.int .i64 97)), (2, (.int .i64 98)), (3, (.int .i64 32)), (4, (.int .i64 233)), (5, (.int .i64 19968)), (6, (.int .i64 128512)), (7, (.int .i64 769)), (8, (.int .i64 10)), (9, (.int .i64 27)), (10, (.int .i64 127)), (11, (.int .i64 65533))] = some ([65, 97, 98, 32, 233, 19968, 128512, 769, 10, 27, 127, 65533].map (GV.int .i64)) := by rfl
  obtain ⟨x, H2, q, g, e2, k1, k2, ⟨n, rfl⟩, d2⟩ := draw_tab hl hc (P := fun g => ∃ n : Int, g = .int .i64 n) (T := [65, 97, 98, 32, 233, 19968, 128512, 769, 10, 27, 127, 65533].map (GV.int .i64)) (by
    intro g hg
    obtain ⟨n, _, rfl⟩ := List.mem_map.1 hg
    exact ⟨n, rfl⟩) (n := 12) rfl (by decide) (m := 12) rfl
  refine ⟨n, H2, ?_, d2⟩
  apply S.spec_l1DrawRune.gives (k := 0)
  generalize ([65, 97, 98, 32, 233, 19968, 128512, 769, 10, 27, 127, 65533] : List Int).map (GV.int .i64) = T at *
  simp [S.spec_l1DrawRune.run, gf, kbs_at', e2, k1, k2, finH, -kia_sl]

/-- What is gathered lies in new memory. -/
theorem runes_l6 {p : Nat} {code : List UInt8} (hl : code.length ≤ 1048576) (k : Nat) {Q : Type} (G : KT2 Q) (v2 : GV) (N0 : Nat) (hp : p < N0) : ∀ (n r : Nat), n < r → n ≤ 1000 → ∀ (v : GV) (xs : List Int) (H : Heap), N0 ≤ H.length → Cur p code H → BufG ci v xs H → (∀ i ∈ kblk v, N0 ≤ i) → xs.length + n ≤ 1000 →
    ∃ v' xs' H', S.spec_l1DrawRunes.l6 k G r (.ptr p 0 3) v2 v (.int .i64 (n : Nat)) H = G (.ext 0) v2 v' H' ∧ BufG ci v' xs' H' ∧ xs'.length ≤ xs.length + n ∧ Cur p code H' ∧ (∀ i, i < N0 → i ≠ p → H'[i]? = H[i]?) ∧ H.length ≤ H'.length ∧ ∀ i ∈ kblk v', N0 ≤ i
  | 0, r + 1, _, _, v, xs, H, hN, hc, hb, hk, _ => by
    refine ⟨v, xs, H, ?_, hb, by omega, hc, fun _ _ _ => rfl, Nat.le_refl _, hk⟩
    simp [S.spec_l1DrawRunes.l6]
  | n + 1, r + 1, hr, hn, v, xs, H, hN, hc, hb, hk, hx => by
    obtain ⟨x, H1, e1, d1⟩ := spec_l1DrawRune_spec hl hc
    have hb1 : BufG ci v xs H1 := hb.keep d1.2 fun i hi hm => by have := hk i hi; simp at hm; omega
    have hb2 : BufG ci v xs (H1 ++ [[GV.int .i64 x]]) := hb1.keep (R := []) Fr.app fun i _ h => by cases h
    have src : gcells (H1 ++ [[GV.int .i64 x]]) 1 (.sl H1.length 0 1 1 1) = some (1, [GV.int .i64 x], [H1.length]) := gcells_lit (mk := ci) (fun _ => rfl) (m := [x])
    obtain ⟨v', H2, a1, a2, a3, a4⟩ := BufG.add (mk := ci) (fun _ => rfl) (fun _ => rfl) (z := [.int .i64 0]) rfl (sz := 8) (by omega) hb2 (m := [x]) src (by simp; omega)
    have c2 : Cur p code H2 := by
      obtain ⟨i, h, q1, q2⟩ := d1.1.app (T := [[GV.int .i64 x]])
      exact ⟨i, h, by rw [a3.2 p (List.getElem?_eq_some_iff.1 q1).1 (fun hm => by have := hk p hm; omega)]; exact q1, q2⟩
    have l1 := d1.2.1
    have l2 := a3.1
    simp only [List.length_append, List.length_singleton] at l2 a4
    obtain ⟨v'', xs', H3, b1, b2, b3, b4, b5, b6, b7⟩ := runes_l6 hl k G v2 N0 hp n r (by omega) (by omega) v' (xs ++ [x]) H2 (by omega) c2 a2 (fun i hi => by rcases a4 i hi with h | h; exact hk i h; omega) (by simp; omega)
    refine ⟨v'', xs', H3, ?_, b2, by simp at b3; omega, b4, fun i hi hne => ?_, by omega, b7⟩
    · rw [← b1]
      have gt : kbin .gtr (.int .i64 ((n + 1 : Nat) : Int)) (.int .i64 0) = some (.bool true) := by rw [kbin_gtr, decide_eq_true (by omega)]
      have sb : kbin .sub (.int .i64 ((n + 1 : Nat) : Int)) (.int .i64 1) = some (.int .i64 (n : Nat)) := by rw [kbin_sub, wrap_id (by omega) (by omega)]; congr 2; omega
      have gf : gfill (fun i => some (i, 1)) (zeros [(.int .i64 0)] 1) [(0, .int .i64 x)] = some [GV.int .i64 x] := by rfl
      generalize GV.int .i64 ((n + 1 : Nat) : Int) = J' at *
      generalize GV.int .i64 (n : Nat) = J at *
      generalize GV.int .i64 x = X at *
      simp [S.spec_l1DrawRunes.l6, gt, e1, gf, kbs_at', a1, sb]
    · rw [b5 i hi hne, a3.2 i (by rw [List.length_append]; omega) (fun hm => by have := hk i hm; omega), List.getElem?_append_left (by omega), d1.2.2 i (by omega) (by simpa using hne)]
theorem spec_l1DrawRunes_spec {p : Nat} {code : List UInt8} {H : Heap} (hl : code.length ≤ 1048576) (hc : Cur p code H) : ∃ (v : GV) (xs : List Int) (H' : Heap), HH fn.spec_l1DrawRunes [.ptr p 0 3] H = some (v, H') ∧ BufG ci v xs H' ∧ xs.length ≤ 8 ∧ Dr p code H H' := by
  obtain ⟨x, H1, e1, x0, _, x1, d1⟩ := spec_l1Below_spec hl hc 9
  have hx := x1 (by omega)
  obtain ⟨n, rfl⟩ : ∃ n : Nat, x = (n : Int) := ⟨x.toNat, by omega⟩
  have hp := hc.lt
  have hl1 := d1.2.1
  obtain ⟨v, xs, H2, b1, b2, b3, b4, b5, b6, b7⟩ := runes_l6 hl 10 (fun x v2 v3 h => kb 0 x fun x => kx x (S.spec_l1DrawRunes.n3 10 (fun x v2 h => kend x (finH v2 h)) v3 h) (kend x (finH v2 h))) .nils H1.length (by omega) n 10 (by omega) (by omega) .emp [] H1 (Nat.le_refl _) d1.1 (.inl ⟨rfl, rfl⟩) (fun i hi => by cases hi) (by simp; omega)
  refine ⟨v, xs, H2, ?_, b2, by simp at b3; omega, b4, ⟨by omega, fun i hi hne => ?_⟩⟩
  · apply S.spec_l1DrawRunes.gives (k := 10)
    simp only [S.spec_l1DrawRunes.run, S.spec_l1DrawRunes.n0, S.spec_l1DrawRunes.n1, S.spec_l1DrawRunes.n2, S.spec_l1DrawRunes.n4, e1, Option.bind_some, kr_mk, S.spec_l1DrawRunes.n5, S.spec_l1DrawRunes.n6]
    exact b1
  · rw [b5 i (by omega) (by simpa using hne), d1.2.2 i hi hne]
end Go.Proofs.YtklhdbkaejbajaaDoor.G
