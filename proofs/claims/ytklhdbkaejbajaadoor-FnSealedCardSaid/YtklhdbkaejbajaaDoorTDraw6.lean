/- Draws: what FnSealed draws. -/
import Derived.Test.YtklhdbkaejbajaaDoorTDraw5
import Derived.Test.YtklhdbkaejbajaaDoorTOpened
import Derived.Test.YtklhdbkaejbajaaDoorSG
namespace Go.Proofs.YtklhdbkaejbajaaDoor.G
open Go.RowKit Go.Lib
set_option linter.unusedVariables false
set_option linter.unusedSimpArgs false

theorem bor_cy {H : Heap} {t : Bool} {l : List UInt8} : bor 9 H (fzl t 1 cy l) = some (fzl true 1 cy l, []) := bor_fzl (d := 8) (fun _ => rfl) l
theorem bors_cy {H : Heap} {t : Bool} {l : List UInt8} : bors H [fzl t 1 cy l] = some [fzl true 1 cy l] := by rw [bors_cons, bor_cy]; rfl
theorem code_of {a0 : List Int} (h : inSl (fun x1 : Int => (Lit.int .u8 x1).wf = true) a0) : ∃ code : List UInt8, fzl true 1 (fun x1 : Int => [GV.int .u8 x1]) a0 = fzl true 1 cy code ∧ code.length = a0.length := by
  have key : ∀ l : List Int, (∀ x ∈ l, (Lit.int .u8 x).wf = true) → ∃ code : List UInt8, l = code.map (fun b => (b.toNat : Int)) := by
    intro l
    induction l with
    | nil => exact fun _ => ⟨[], rfl⟩
    | cons x l ih =>
      intro h
      obtain ⟨c, hc⟩ := ih fun y hy => h y (by simp [hy])
      have hx := h x (by simp)
      simp [Lit.wf, IntKind.min, IntKind.max, IntKind.bits, IntKind.signed] at hx
      refine ⟨UInt8.ofNat x.toNat :: c, ?_⟩
      rw [List.map_cons, ← hc]
      congr 1
      rw [UInt8.toNat_ofNat', Nat.mod_eq_of_lt (by omega)]
      omega
  obtain ⟨code, rfl⟩ := key a0 h.2
  refine ⟨code, ?_, by simp⟩
  cases code with
  | nil => rfl
  | cons b code =>
    simp only [List.map_cons, fzl]
    congr 1
    · simp
    · rw [List.flatMap_cons, List.flatMap_cons, List.flatMap_map]
theorem laws_big_spec (code : List UInt8) : NN fn.laws_big [fzl true 1 cy code] = some (.bool (decide (4096 < code.length))) := by
  apply S.laws_big.gives (k := 0)
  have kl : klen (fzl true 1 cy code) = some (.int .i64 (code.length : Nat)) := klen_fzl
  have gt : kbin .gtr (.int .i64 (code.length : Nat)) (.int .i64 4096) = some (.bool (decide (4096 < code.length))) := by
    rw [kbin_gtr]; congr 2; rw [Bool.eq_iff_iff]; simp; omega
  generalize fzl true 1 cy code = C at *
  generalize GV.int .i64 (code.length : Nat) = L at *
  simp [S.laws_big.run, kl, gt]
theorem zeros_cy : ∀ n, zeros [.int .u8 0] n = (List.replicate n (0 : UInt8)).flatMap cy
  | 0 => rfl
  | n + 1 => by rw [List.replicate_succ, List.flatMap_cons, ← zeros_cy n]; rfl
theorem make_bytes {H : Heap} {m : Nat} (hm : m ≤ 1048576) {x : Int} (hx : x = (m : Int)) : kmake [.int .u8 0] 1 1 (.int .i64 x) (.int .i64 x) H = some (.sl H.length 0 m m 1, H ++ [(List.replicate m (0 : UInt8)).flatMap cy]) := by
  subst hx
  unfold kmake
  simp only [kint_int, Option.bind_some]
  rw [if_pos ⟨by omega, Int.le_refl _, by simp only [maxLen]; omega, by simp only [roomMax]; omega, rfl⟩, zeros_cy]
  simp

theorem l1New_nil (code : List UInt8) (hl : code.length ≤ 1048576) : ∃ H', HH fn.spec_l1New [fzl true 1 cy code] [] = some (.ptr 0 0 3, H') ∧ Cur 0 code H' := by
  obtain ⟨H1, e1, c1, _⟩ := spec_l1New_spec code [] hl
  exact ⟨H1, e1, c1⟩
theorem spec_DrawMark_spec (code : List UInt8) (hl : code.length ≤ 1048576) : ∃ (key : List UInt8) (n : Int) (s : List UInt8), NN fn.spec_DrawMark [fzl true 1 cy code] = some (.tup [.str (bs key), .int .i64 n, .str (bs s)]) ∧ key.length ≤ 17 ∧ s.length ≤ 4001 := by
  obtain ⟨H1, e1, c1⟩ := l1New_nil code hl
  obtain ⟨key, H2, e2, k2, d2⟩ := spec_l14DrawKey_spec hl c1
  obtain ⟨n, H3, e3, d3⟩ := spec_l14DrawCount_spec hl d2.1
  obtain ⟨s, H4, e4, s4, d4⟩ := spec_l1DrawBytes_spec hl d3.1
  obtain ⟨b, H5, e5, d5⟩ := spec_l1Once_spec hl d4.1 30
  cases b
  · have fT : finN (.tup [.str (bs key), .int .i64 n, .str (bs s)]) H5 = some (.tup [.str (bs key), .int .i64 n, .str (bs s)]) := rfl
    refine ⟨key, n, s, ?_, k2, by omega⟩
    apply S.spec_DrawMark.gives (k := 0)
    generalize fzl true 1 cy code = C at *
    generalize GV.str (bs key) = K at *
    generalize GV.str (bs s) = Z at *
    simp [S.spec_DrawMark.run, e1, e2, e3, e4, e5, fT]
  · obtain ⟨m, H6, e6, hm, d6⟩ := draw_nat hl d5.1 (n := 2) (by omega) (m := 2) rfl
    have ad : kbin .add (.int .i64 4000) (.int .i64 (m : Nat)) = some (.int .i64 ((4000 + m : Nat) : Int)) := by rw [kbin_add, wrap_id (by omega) (by omega)]; rfl
    have mk := make_bytes (H := H6) (m := 4000 + m) (by omega) (x := ((4000 + m : Nat) : Int)) rfl
    have st : kbstr (H6 ++ [(List.replicate (4000 + m) (0 : UInt8)).flatMap cy]) (.sl H6.length 0 (4000 + m) (4000 + m) 1) = some (.str (bs (List.replicate (4000 + m) 0))) :=
      kbstr_at (rest := []) (R := []) (l := List.replicate (4000 + m) 0) (by simp) (by simp) (by simp)
    have fT : ∀ H, finN (.tup [.str (bs key), .int .i64 n, .str (bs (List.replicate (4000 + m) 0))]) H = some (.tup [.str (bs key), .int .i64 n, .str (bs (List.replicate (4000 + m) 0))]) := fun H => rfl
    refine ⟨key, n, List.replicate (4000 + m) 0, ?_, k2, by rw [List.length_replicate]; omega⟩
    apply S.spec_DrawMark.gives (k := 0)
    generalize fzl true 1 cy code = C at *
    generalize GV.str (bs key) = K at *
    generalize GV.str (bs s) = Z at *
    generalize GV.str (bs (List.replicate (4000 + m) 0)) = Y at *
    generalize GV.int .i64 ((4000 + m : Nat) : Int) = M' at *
    generalize GV.int .i64 (m : Nat) = M at *
    generalize GV.sl H6.length 0 (4000 + m) (4000 + m) 1 = W at *
    generalize (H6 ++ [(List.replicate (4000 + m) (0 : UInt8)).flatMap cy]) = H7 at *
    simp [S.spec_DrawMark.run, e1, e2, e3, e4, e5, e6, ad, mk, st, fT]
theorem spec_DrawSealed_spec (code : List UInt8) (hl : code.length ≤ 1048576) : ∃ (key : List UInt8) (n : Int) (s : List UInt8), NN fn.spec_DrawSealed [fzl true 1 cy code] = some (.tup [.str (bs key), .int .i64 n, .str (bs s)]) ∧ key.length ≤ 17 ∧ s.length ≤ 4001 := by
  obtain ⟨key, n, s, e1, h1, h2⟩ := spec_DrawMark_spec code hl
  refine ⟨key, n, s, ?_, h1, h2⟩
  have k1 : ∀ H, kN NN fn.spec_DrawMark [fzl true 1 cy code] H = _ := fun H => kN_at bors_cy e1
  have fT : ∀ H, finN (.tup [.str (bs key), .int .i64 n, .str (bs s)]) H = some (.tup [.str (bs key), .int .i64 n, .str (bs s)]) := fun H => rfl
  apply S.spec_DrawSealed.gives (k := 0)
  generalize fzl true 1 cy code = C at *
  generalize GV.str (bs key) = K at *
  generalize GV.str (bs s) = Z at *
  simp [S.spec_DrawSealed.run, k1, fT, -kN_eq]
theorem spec_DrawMix_spec (code : List UInt8) (hl : code.length ≤ 1048576) : ∃ (a b : Int), NN fn.spec_DrawMix [fzl true 1 cy code] = some (.tup [.int .i64 a, .int .i64 b]) := by
  obtain ⟨H1, e1, c1⟩ := l1New_nil code hl
  obtain ⟨n, H2, e2, d2⟩ := spec_l14DrawCount_spec hl c1
  obtain ⟨m, H3, e3, d3⟩ := spec_l14DrawCount_spec hl d2.1
  obtain ⟨x, q1⟩ := kbin_ex .mul (by simp) n 7919
  obtain ⟨y, q2⟩ := krem_ex x 5000000 (by omega)
  refine ⟨y, m, ?_⟩
  have fT : finN (.tup [.int .i64 y, .int .i64 m]) H3 = some (.tup [.int .i64 y, .int .i64 m]) := rfl
  apply S.spec_DrawMix.gives (k := 0)
  generalize fzl true 1 cy code = C at *
  simp [S.spec_DrawMix.run, e1, e2, q1, q2, e3, fT, -kbin_mul]
theorem chk_tab {n0 n1 m0 m1 p : Nat} (hp : p < n0) : chk [(2, 4)] [⟨2, n0, n1, ⟨[], []⟩⟩, ⟨4, m0, m1, ⟨[p], [p]⟩⟩] = true := by
  have h : Nat.ble n0 p = false := by
    cases hb : Nat.ble n0 p with
    | false => rfl
    | true => have := Nat.le_of_ble_eq_true hb; omega
  simp [chk, meets, touches, h]
  exact .inl hp
theorem spec_DrawStream_spec (code : List UInt8) (hl : code.length ≤ 1048576) : ∃ (key : List UInt8) (n w : Int), NN fn.spec_DrawStream [fzl true 1 cy code] = some (.tup [.str (bs key), .int .i64 n, .int .i64 w]) ∧ key.length ≤ 17 ∧ -1 ≤ w ∧ w ≤ 4001 := by
  obtain ⟨H1, e1, c1⟩ := l1New_nil code hl
  obtain ⟨key, H2, e2, k2, d2⟩ := spec_l14DrawKey_spec hl c1
  obtain ⟨n, H3, e3, d3⟩ := spec_l14DrawCount_spec hl d2.1
  have gf : gfill (fun i => some (i, 1)) (zeros [(.int .i64 0)] 7) [(0, (.int .i64 0)), (1, (.int .i64 1)), (2, (.int .i64 9)), (3, (.int .i64 4000)), (4, (.int .i64 4001)), (5, (.int .i64 (-1))), (6, (.int .i64 30))] = some [(.int .i64 0), (.int .i64 1), (.int .i64 9), (.int .i64 4000), (.int .i64 4001), (.int .i64 (-1)), (.int .i64 30)] := by rfl
  obtain ⟨x, H4, q, g, e4, q1, q2, ⟨w, rfl, w1, w2⟩, d4⟩ := draw_tab hl d3.1 (P := fun g => ∃ n : Int, g = .int .i64 n ∧ -1 ≤ n ∧ n ≤ 4001) (T := [(.int .i64 0), (.int .i64 1), (.int .i64 9), (.int .i64 4000), (.int .i64 4001), (.int .i64 (-1)), (.int .i64 30)]) (by
    intro g hg
    simp only [List.mem_cons, List.not_mem_nil, or_false] at hg
    rcases hg with rfl | rfl | rfl | rfl | rfl | rfl | rfl <;> exact ⟨_, rfl, by omega, by omega⟩) (n := 7) rfl (by decide) (m := 7) rfl
  refine ⟨key, n, w, ?_, k2, w1, w2⟩
  have fT : finN (.tup [.str (bs key), .int .i64 n, .int .i64 w]) H4 = some (.tup [.str (bs key), .int .i64 n, .int .i64 w]) := rfl
  obtain ⟨f1, f2⟩ := (d3.1.app (T := [[(.int .i64 0), (.int .i64 1), (.int .i64 9), (.int .i64 4000), (.int .i64 4001), (.int .i64 (-1)), (.int .i64 30)]])).flat (o := 0) (t := 3) (xs := [.int .i64 7]) (by rfl) (by rfl)
  have ck := fun n1 m0 m1 => chk_tab (n1 := n1) (m0 := m0) (m1 := m1) d3.1.lt
  apply S.spec_DrawStream.gives (k := 0)
  generalize fzl true 1 cy code = C at *
  generalize GV.str (bs key) = K at *
  generalize ([(.int .i64 0), (.int .i64 1), (.int .i64 9), (.int .i64 4000), (.int .i64 4001), (.int .i64 (-1)), (.int .i64 30)] : List GV) = T at *
  simp [S.spec_DrawStream.run, e1, e2, e3, gf, kbs_at', f1, f2, kold, krs, e4, q1, q2, ck, fT, -kia_sl]
theorem sealM_len (key : List UInt8) (n : Int) (s : List UInt8) : (sealM key n s).length ≤ 4100 := by
  unfold sealM
  by_cases hT : toldP key n s.length = true
  · rw [if_pos hT]
    obtain ⟨c1, c2, c3, c4, c5⟩ := told_of hT
    have mb := markM_b key n s
    have h1 := itoa_len (n := n) (by omega) (by omega)
    have h2 := itoa_len (n := markM key n s) (by omega) (by omega)
    have h3 := xorL_len (l := s) (stream_len hT)
    simp only [List.length_append, List.length_singleton]
    omega
  · rw [if_neg hT]; simp
theorem spec_DrawOpened_spec (code : List UInt8) (hl : code.length ≤ 1048576) : ∃ (key d : List UInt8), NN fn.spec_DrawOpened [fzl true 1 cy code] = some (.tup [.str (bs key), .str (bs d)]) ∧ key.length ≤ 17 ∧ d.length ≤ 5000 := by
  obtain ⟨H1, e1, c1⟩ := l1New_nil code hl
  obtain ⟨key, n, s, e2, h1, h2⟩ := spec_DrawMark_spec code hl
  have k2 : ∀ H, kN NN fn.spec_DrawMark [fzl true 1 cy code] H = _ := fun H => kN_at bors_cy e2
  have k3 : ∀ H, kN NN fn.spec_Sealed [.str (bs key), .int .i64 n, .str (bs s)] H = _ := fun H => kN_at (by simp) (spec_Sealed_spec key n s (by omega) (by omega))
  have sl := sealM_len key n s
  obtain ⟨b, H3, e3, d3⟩ := spec_l1Once_spec hl c1 2
  have mid : ∃ (d : List UInt8) (H4 : Heap), d.length ≤ 5000 ∧ Cur 0 code H4 ∧ ∀ r, S.spec_DrawOpened.n5 0 (fun x v2 v3 h => kend x (finN (.tup [v2, v3]) h)) (.str { data := #[] }) (.str { data := #[] }) (.ptr 0 0 3) (.str (bs key)) (.str (bs d)) H4 = some r → NN fn.spec_DrawOpened [fzl true 1 cy code] = some r := by
    cases b
    · refine ⟨sealM key n s, H3, by omega, d3.1, fun r hr => ?_⟩
      apply S.spec_DrawOpened.gives (k := 0)
      refine Eq.trans ?_ hr
      have e1' : HH fn.spec_l1New [fzl true 1 cy code] [] = some (.ptr 0 0 3, H1) := e1
      have e3' : HH fn.spec_l1Once [.ptr 0 0 3, .int .i64 2] H1 = _ := e3
      generalize fzl true 1 cy code = C at *
      generalize GV.str (bs key) = K at *
      generalize GV.str (bs s) = Z at *
      generalize GV.str (bs (sealM key n s)) = D at *
      simp only [S.spec_DrawOpened.run, S.spec_DrawOpened.n0, S.spec_DrawOpened.n1, e1', Option.bind_some, kr_mk, S.spec_DrawOpened.n2, k2, kxt_tup, List.getElem?_cons_zero, List.getElem?_cons_succ, S.spec_DrawOpened.n3, k3, S.spec_DrawOpened.n4, e3', kcond_bool, cond_false]
    · obtain ⟨d, H4, e4, hd, d4⟩ := spec_l13Bend_spec (s := sealM key n s) (signs := [48, 49, 57, 32, 97, 0]) hl d3.1 (by omega) (by decide) (by decide)
      refine ⟨d, H4, by omega, d4.1, fun r hr => ?_⟩
      apply S.spec_DrawOpened.gives (k := 0)
      refine Eq.trans ?_ hr
      have e1' : HH fn.spec_l1New [fzl true 1 cy code] [] = some (.ptr 0 0 3, H1) := e1
      have e3' : HH fn.spec_l1Once [.ptr 0 0 3, .int .i64 2] H1 = _ := e3
      have e4' : HH fn.spec_l13Bend [.ptr 0 0 3, .str (bs (sealM key n s)), .str { data := #[48, 49, 57, 32, 97, 0] }] H3 = _ := e4
      generalize fzl true 1 cy code = C at *
      generalize GV.str (bs key) = K at *
      generalize GV.str (bs s) = Z at *
      generalize GV.str (bs (sealM key n s)) = D at *
      simp only [S.spec_DrawOpened.run, S.spec_DrawOpened.n0, S.spec_DrawOpened.n1, e1', Option.bind_some, kr_mk, S.spec_DrawOpened.n2, k2, kxt_tup, List.getElem?_cons_zero, List.getElem?_cons_succ, S.spec_DrawOpened.n3, k3, S.spec_DrawOpened.n4, e3', kcond_bool, cond_true, e4']
  obtain ⟨d, H4, hd, c4, run⟩ := mid
  obtain ⟨b2, H5, e5, d5⟩ := spec_l1Once_spec hl c4 10
  have e5' : HH fn.spec_l1Once [.ptr 0 0 3, .int .i64 10] H4 = _ := e5
  cases b2
  · refine ⟨key, d, run _ ?_, h1, hd⟩
    have fT : finN (.tup [.str (bs key), .str (bs d)]) H5 = some (.tup [.str (bs key), .str (bs d)]) := rfl
    generalize GV.str (bs key) = K at *
    generalize GV.str (bs d) = D at *
    simp [e5', fT]
  · obtain ⟨key2, H6, e6, h6, d6⟩ := spec_l14DrawKey_spec hl d5.1
    have e6' : HH fn.spec_l14DrawKey [.ptr 0 0 3] H5 = _ := e6
    refine ⟨key2, d, run _ ?_, h6, hd⟩
    have fT : finN (.tup [.str (bs key2), .str (bs d)]) H6 = some (.tup [.str (bs key2), .str (bs d)]) := rfl
    generalize GV.str (bs key) = K at *
    generalize GV.str (bs key2) = K2 at *
    generalize GV.str (bs d) = D at *
    simp [e5', e6', fT]
end Go.Proofs.YtklhdbkaejbajaaDoor.G
