/- Entries as texts: digits, numbers with blanks between, entries. -/
import Derived.Test.YtklhdbkaejbajaaDoorTIn
import Derived.Test.YtklhdbkaejbajaaDoorTBufG
import Derived.Test.YtklhdbkaejbajaaDoorSH
namespace Go.Proofs.YtklhdbkaejbajaaDoor.G
open Go.RowKit Go.Lib
set_option linter.unusedVariables false
set_option linter.unusedSimpArgs false

/-! Numbers with blanks between. -/
def spcM (ns : List Int) : List UInt8 := Lib.join (ns.map itoa) [32]
theorem join_len (sep : List UInt8) (n : Nat) : ∀ (xs : List (List UInt8)), (∀ x ∈ xs, x.length ≤ n) → (Lib.join xs sep).length ≤ xs.length * (n + sep.length)
  | [], _ => by simp [Lib.join, List.intercalate]
  | [x], h => by
    have := h x (by simp)
    simp [Lib.join, List.intercalate]; omega
  | x :: y :: xs, h => by
    have h1 := h x (by simp)
    have h2 := join_len sep n (y :: xs) (fun z hz => h z (by simp [hz]))
    have e : Lib.join (x :: y :: xs) sep = x ++ sep ++ Lib.join (y :: xs) sep := by simp [Lib.join, List.intercalate, List.intersperse]
    rw [e, List.length_append, List.length_append, List.length_cons, Nat.add_mul]
    omega
theorem join_cons (x y : List UInt8) (xs : List (List UInt8)) (sep : List UInt8) : Lib.join (x :: y :: xs) sep = x ++ sep ++ Lib.join (y :: xs) sep := by simp [Lib.join, List.intercalate, List.intersperse]
theorem join_one (x sep : List UInt8) : Lib.join [x] sep = x := by simp [Lib.join, List.intercalate]
theorem strs_of (xs : List ByteArray) : (xs.flatMap cs).mapM strOf = some xs := by
  induction xs with
  | nil => rfl
  | cons x xs ih => rw [List.flatMap_cons, List.cons_append, List.nil_append, List.mapM_cons, ih]; rfl
theorem strings_Join_spec (xs : List ByteArray) (sep : ByteArray) (h : xs.length ≤ 4194304) (hl : (Lib.join (xs.map (·.data.toList)) sep.data.toList).length ≤ 140737488355328) :
    NN fn.strings_Join [fzl true 1 cs xs, .str sep] = some (.str (bs (Lib.join (xs.map (·.data.toList)) sep.data.toList))) := by
  show rJoin [fzl true 1 cs xs, .str sep] = _
  cases xs with
  | nil => rfl
  | cons x xs =>
    have e := strs_of (x :: xs)
    show ((((x :: xs).flatMap cs).mapM strOf).bind fun ys => if ys.length = xs.length + 1 ∧ ys.length ≤ 140737488355328 ∧ (Lib.join (ys.map (·.data.toList)) sep.data.toList).length ≤ 140737488355328 then some (GV.str ⟨(Lib.join (ys.map (·.data.toList)) sep.data.toList).toArray⟩) else none) = _
    rw [e]
    simp only [Option.bind_some]
    rw [if_pos ⟨by simp, by omega, hl⟩]
theorem impl_spaced_spec (ns : List Int) (h : ns.length ≤ 1048576) (hb : ∀ n ∈ ns, -9223372036854775808 ≤ n ∧ n ≤ 9223372036854775807) : NN fn.impl_spaced [fzl true 1 ci ns] = some (.str (bs (spcM ns))) := by
  apply S.impl_spaced.gives (k := ns.length + 1)
  simp only [S.impl_spaced.run, S.impl_spaced.n0, S.impl_spaced.n1, S.impl_spaced.n2, S.impl_spaced.n4, klen_fzl, Option.bind_some, S.impl_spaced.n5, S.impl_spaced.n6]
  have key := loop_inv (T := GV × Heap) (Inv := fun j (x : GV × Heap) => BufG cs x.1 ((ns.take j).map fun n => bs (itoa n)) x.2) (n := ns.length) (f := fun r j x => S.impl_spaced.l6 (ns.length + 1) (fun x v2 v3 h => kb 0 x fun x => kx x (S.impl_spaced.n3 (ns.length + 1) (fun x v2 h => kend x (finN v2 h)) v3 h) (kend x (finN v2 h))) r (.str { data := #[] }) x.1 (fzl true 1 ci ns) (.int .i64 (ns.length : Nat)) (.int .i64 (j : Int)) x.2) (A := fun x => (kN NN fn.strings_Join [x.1, .str { data := #[32] }] x.2).bind fun v => finN v x.2) (m := ns.length + 1)
    (fun j r x hj hs => by
      obtain ⟨v, H⟩ := x
      simp only at hs
      have hj' : (j : Int) < ns.length := by omega
      have hr := hb ns[j] (List.getElem_mem hj)
      have w := wrap_succ (n := j) (by simp only [maxLen]; omega)
      obtain ⟨v', H', a1, a2⟩ := hs.app (mk := cs) (fun _ => rfl) (fun _ => rfl) (z := [.str { data := #[] }]) rfl (sz := 16) (by omega) (m := [bs (itoa ns[j])]) (by simp) (by simp; omega)
      refine ⟨(v', H'), ?_, ?_⟩
      · have d1 : ∀ H, kN NN fn.impl_decimal [.int .i64 ns[j]] H = some (.str (bs (itoa ns[j]))) := fun H => kN_at (by simp) (impl_decimal_spec _ hr.1 hr.2)
        have a1' : kapp [.str { data := #[] }] 1 16 v (.sl H.length 0 1 1 1) (H ++ [[GV.str (bs (itoa ns[j]))]]) = some (v', H') := a1
        have gf := gfill_one' (v := .str (bs (itoa ns[j]))) (z := [.str { data := #[] }]) rfl rfl
        have ki : kia 1 (fzl true 1 ci ns) (.int .i64 (j : Int)) = some (elp true ci ns j) := by rw [kia_ci, if_pos ⟨by omega, hj'⟩]; simp
        have ld : ∀ H, kload1 H (elp true ci ns j) = some (.int .i64 ns[j]) := fun H => by rw [kload1_ci, get_of hj]; rfl
        generalize GV.str (bs (itoa ns[j])) = X at *
        generalize fzl true 1 ci ns = V at *
        simp [S.impl_spaced.l6, hj', ki, ld, d1, gf, kbs_eq, a1', w, -kN_eq]
      · show BufG cs v' ((ns.take (j + 1)).map _) H'
        rw [List.take_add_one, List.getElem?_eq_getElem hj, List.map_append]
        exact a2)
    (fun r x hs => by
      obtain ⟨v, H⟩ := x
      generalize fzl true 1 ci ns = V at *
      simp [S.impl_spaced.l6, -kN_eq]) (s := (.emp, [])) (.inl ⟨rfl, rfl⟩) (by omega)
  obtain ⟨⟨v, H⟩, k1, k2⟩ := key
  refine k1.trans ?_
  rw [List.take_length] at k2
  obtain ⟨r, hbr⟩ := k2.bor (fun _ => rfl) (fun _ => rfl)
  have e1 : ((ns.map fun n => bs (itoa n)).map fun s : ByteArray => s.data.toList) = ns.map itoa := by rw [List.map_map]; rfl
  have hlen : (Lib.join (ns.map itoa) [32]).length ≤ 140737488355328 := by
    have := join_len [32] 20 (ns.map itoa) (fun x hx => by
      obtain ⟨n, hn, rfl⟩ := List.mem_map.1 hx
      exact itoa_len (hb n hn).1 (hb n hn).2)
    simp only [List.length_map, List.length_singleton] at this
    have : ns.length * 21 ≤ 1048576 * 21 := Nat.mul_le_mul_right _ h
    omega
  have jn := strings_Join_spec (ns.map fun n => bs (itoa n)) { data := #[32] } (by simp; omega) (by rw [e1]; exact hlen)
  rw [e1] at jn
  have kk : kN NN fn.strings_Join [v, .str { data := #[32] }] H = some (.str (bs (spcM ns))) := kN_at (by rw [bors_cons, hbr]; simp) jn
  simp only [kk, Option.bind_some]
  rfl

/-! Digits. -/
def hexT : List UInt8 := [48, 49, 50, 51, 52, 53, 54, 55, 56, 57, 97, 98, 99, 100, 101, 102]
def hexD (n : Nat) : UInt8 := hexT.getD n 0
def hexM (l : List UInt8) : List UInt8 := l.flatMap fun b => [hexD (b.toNat / 16), hexD (b.toNat % 16)]
theorem hex_words (b : UInt8) : kbin .quo (.int .u8 (b.toNat : Int)) (.int .u8 16) = some (.int .u8 ((b.toNat / 16 : Nat) : Int)) ∧ kbin .rem (.int .u8 (b.toNat : Int)) (.int .u8 16) = some (.int .u8 ((b.toNat % 16 : Nat) : Int)) := by
  have hb := b.toNat_lt
  constructor
  · rw [kbin_quo (by omega), show ((b.toNat : Int)).tdiv 16 = ((b.toNat / 16 : Nat) : Int) from rfl, wrap8 (by omega) (by omega)]
  · rw [kbin_rem (by omega)]; rfl
theorem hex_digit {n : Nat} (h : n < 16) : kbyte (.str { data := #[48, 49, 50, 51, 52, 53, 54, 55, 56, 57, 97, 98, 99, 100, 101, 102] }) (.int .u8 (n : Int)) = some (.int .u8 ((hexD n).toNat : Int)) := by
  have e := kbyte_nat (l := hexT) (k := .u8) (i := n) (by simpa [hexT] using h)
  have e2 : hexT[n]'(by simpa [hexT] using h) = hexD n := by
    unfold hexD
    rw [List.getD_eq_getElem?_getD, List.getElem?_eq_getElem (by simpa [hexT] using h)]; rfl
  rw [e2] at e
  exact e
theorem gfill_two {v w : GV} {z : GV} (hv : v.cells = [v]) (hw : w.cells = [w]) : gfill (fun i => some (i, 1)) (zeros [z] 2) [(0, v), (1, w)] = some [v, w] := by
  simp [gfill, zeros, hv, hw, splice]
theorem Buf.app2 {v : GV} {l : List UInt8} {h : Heap} (hb : Buf v l h) {a b : UInt8} {x y : Int} (hx : x = (a.toNat : Int)) (hy : y = (b.toNat : Int)) (hl : l.length + 2 ≤ 4194304) : ∃ v' h', kapp [.int .u8 0] 1 1 v (.sl h.length 0 2 2 1) (h ++ [[.int .u8 x, .int .u8 y]]) = some (v', h') ∧ Buf v' (l ++ [a, b]) h' := by
  subst hx hy
  exact hb.app (m := [a, b]) (by simp) (by simpa using hl)
theorem hexM_take {l : List UInt8} {j : Nat} (hj : j < l.length) : hexM (l.take (j + 1)) = hexM (l.take j) ++ [hexD (l[j].toNat / 16), hexD (l[j].toNat % 16)] := by
  unfold hexM
  rw [List.take_add_one, List.getElem?_eq_getElem hj, List.flatMap_append]; rfl
theorem hexM_len (l : List UInt8) : (hexM l).length = 2 * l.length := by
  unfold hexM
  induction l with
  | nil => rfl
  | cons x l ih => rw [List.flatMap_cons, List.length_append, ih, List.length_cons]; simp; omega
theorem impl_hex_spec (l : List UInt8) (hl : l.length ≤ 1048576) : NN fn.impl_hex [.str (bs l)] = some (.str (bs (hexM l))) := by
  apply S.impl_hex.gives (k := l.length + 1)
  simp only [S.impl_hex.run, S.impl_hex.n0, S.impl_hex.n1, S.impl_hex.n2, S.impl_hex.n4, klenS_bs, Option.bind_some, S.impl_hex.n5, S.impl_hex.n6]
  have key := loop_inv (T := GV × Heap) (Inv := fun j (x : GV × Heap) => Buf x.1 (hexM (l.take j)) x.2) (n := l.length) (f := fun r j x => S.impl_hex.l6 (l.length + 1) (fun x v2 v3 h => kb 0 x fun x => kx x (S.impl_hex.n3 (l.length + 1) (fun x v2 h => kend x (finN v2 h)) v3 h) (kend x (finN v2 h))) r (.str (bs l)) (.str { data := #[] }) x.1 (.int .i64 (l.length : Nat)) (.int .i64 (j : Int)) x.2) (A := fun x => (kbstr x.2 x.1).bind fun v => finN v x.2) (m := l.length + 1)
    (fun j r x hj hs => by
      obtain ⟨v, H⟩ := x
      simp only at hs
      have hj' : (j : Int) < l.length := by omega
      have w := wrap_succ (n := j) (by simp only [maxLen]; omega)
      have kb := kbyte_nat (k := .i64) (l := l) hj
      have hlt := l[j].toNat_lt
      obtain ⟨q1, q2⟩ := hex_words l[j]
      have d1 := hex_digit (n := l[j].toNat / 16) (by omega)
      have d2 := hex_digit (n := l[j].toNat % 16) (by omega)
      have hln := hexM_len (l.take j)
      rw [List.length_take] at hln
      obtain ⟨x1, hx1⟩ : ∃ x : Int, x = ((hexD (l[j].toNat / 16)).toNat : Int) := ⟨_, rfl⟩
      obtain ⟨x2, hx2⟩ : ∃ x : Int, x = ((hexD (l[j].toNat % 16)).toNat : Int) := ⟨_, rfl⟩
      rw [← hx1] at d1
      rw [← hx2] at d2
      obtain ⟨v', H', a1, a2⟩ := hs.app2 hx1 hx2 (by omega)
      refine ⟨(v', H'), ?_, ?_⟩
      · have gf := gfill_two (v := .int .u8 x1) (w := .int .u8 x2) (z := .int .u8 0) rfl rfl
        generalize ((l[j].toNat / 16 : Nat) : Int) = y1 at *
        generalize ((l[j].toNat % 16 : Nat) : Int) = y2 at *
        generalize (l[j].toNat : Int) = y at *
        generalize GV.str (bs l) = L at *
        simp [S.impl_hex.l6, hj', kb, q1, d1, q2, d2, gf, kbs_eq, a1, w]
      · show Buf v' (hexM (l.take (j + 1))) H'
        rw [hexM_take hj]
        exact a2)
    (fun r x hs => by
      obtain ⟨v, H⟩ := x
      simp [S.impl_hex.l6]) (s := (.emp, [])) .nil (by omega)
  obtain ⟨⟨v, H⟩, k1, k2⟩ := key
  refine k1.trans ?_
  rw [List.take_length] at k2
  simp only [k2.str, Option.bind_some]
  rfl
theorem spec_l18Hex_spec (l : List UInt8) (hl : l.length ≤ 1048576) : NN fn.spec_l18Hex [.str (bs l)] = some (.str (bs (hexM l))) := by
  apply S.spec_l18Hex.gives (k := l.length + 1)
  simp only [S.spec_l18Hex.run, S.spec_l18Hex.n0, S.spec_l18Hex.n1, S.spec_l18Hex.n2, S.spec_l18Hex.n4, S.spec_l18Hex.n5, S.spec_l18Hex.n6]
  have key := loop_inv (T := GV × Heap) (Inv := fun j (x : GV × Heap) => Buf x.1 (hexM (l.take j)) x.2) (n := l.length) (f := fun r j x => S.spec_l18Hex.l6 (l.length + 1) (fun x v2 v3 h => kb 0 x fun x => kx x (S.spec_l18Hex.n3 (l.length + 1) (fun x v2 h => kend x (finN v2 h)) v3 h) (kend x (finN v2 h))) r (.str (bs l)) (.str { data := #[] }) x.1 (.int .i64 (j : Int)) x.2) (A := fun x => (kbstr x.2 x.1).bind fun v => finN v x.2) (m := l.length + 1)
    (fun j r x hj hs => by
      obtain ⟨v, H⟩ := x
      simp only at hs
      have hj' : (j : Int) < l.length := by omega
      have w := wrap_succ (n := j) (by simp only [maxLen]; omega)
      have kb := kbyte_nat (k := .i64) (l := l) hj
      have hlt := l[j].toNat_lt
      have kl := klenS_bs l
      obtain ⟨q1, q2⟩ := hex_words l[j]
      have d1 := hex_digit (n := l[j].toNat / 16) (by omega)
      have d2 := hex_digit (n := l[j].toNat % 16) (by omega)
      have hln := hexM_len (l.take j)
      rw [List.length_take] at hln
      obtain ⟨x1, hx1⟩ : ∃ x : Int, x = ((hexD (l[j].toNat / 16)).toNat : Int) := ⟨_, rfl⟩
      obtain ⟨x2, hx2⟩ : ∃ x : Int, x = ((hexD (l[j].toNat % 16)).toNat : Int) := ⟨_, rfl⟩
      rw [← hx1] at d1
      rw [← hx2] at d2
      obtain ⟨v', H', a1, a2⟩ := hs.app2 hx1 hx2 (by omega)
      refine ⟨(v', H'), ?_, ?_⟩
      · have gf := gfill_two (v := .int .u8 x1) (w := .int .u8 x2) (z := .int .u8 0) rfl rfl
        generalize ((l[j].toNat / 16 : Nat) : Int) = y1 at *
        generalize ((l[j].toNat % 16 : Nat) : Int) = y2 at *
        generalize (l[j].toNat : Int) = y at *
        generalize GV.str (bs l) = L at *
        simp [S.spec_l18Hex.l6, hj', kl, kb, q1, d1, q2, d2, gf, kbs_eq, a1, w]
      · show Buf v' (hexM (l.take (j + 1))) H'
        rw [hexM_take hj]
        exact a2)
    (fun r x hs => by
      obtain ⟨v, H⟩ := x
      have kl := klenS_bs l
      generalize GV.str (bs l) = L at *
      simp [S.spec_l18Hex.l6, kl]) (s := (.emp, [])) .nil (by omega)
  obtain ⟨⟨v, H⟩, k1, k2⟩ := key
  refine k1.trans ?_
  rw [List.take_length] at k2
  simp only [k2.str, Option.bind_some]
  rfl

/-! Entries. -/
/-- An entry that is right. -/
def entP (k c q : Int) (n : Nat) : Bool :=
  bif decide (k = 1) then (decide (0 ≤ c) && decide (c ≤ 3)) && (decide (1 ≤ q) && decide (q ≤ 10000)) && (decide (1 ≤ (n : Int)) && decide ((n : Int) ≤ 20))
  else bif decide (k = 2) then decide (c = 0) && decide (q = 0) && (decide (1 ≤ (n : Int)) && decide ((n : Int) ≤ 60))
  else decide (k = 3) && (decide (1 ≤ c) && decide (c ≤ 60)) && (decide (1 ≤ q) && decide (q ≤ 30)) && decide ((n : Int) = 0)
abbrev ent (k c q : Int) (l : List UInt8) : GV := .agg [.int .i64 k, .int .i64 c, .int .i64 q, .str (bs l)]
theorem impl_isKeys_spec (l : List UInt8) : NN fn.impl_isKeys [.str (bs l)] = some (.bool (decide (1 ≤ (l.length : Int)) && decide ((l.length : Int) ≤ 20))) := by
  apply S.impl_isKeys.gives (k := 0)
  have kl := klenS_bs l
  have i1 : kN NN fn.impl_in [.int .i64 (l.length : Nat), .int .i64 1, .int .i64 20] [] = _ := kN_at (by simp) (impl_in_spec (l.length : Int) 1 20)
  generalize GV.str (bs l) = L at *
  generalize decide (1 ≤ (l.length : Int)) = c1 at *
  generalize decide ((l.length : Int) ≤ 20) = c2 at *
  simp [S.impl_isKeys.run, kl, i1, -kN_eq]
theorem bs_nil_len {l : List UInt8} : kbin .eql (.str (bs l)) (.str { data := #[] }) = some (.bool (decide ((l.length : Int) = 0))) := by
  rw [kbin_seql, bs_nil_eq]
  congr 2
  rw [Bool.eq_iff_iff]
  simp only [decide_eq_true_eq]
  constructor
  · rintro rfl; rfl
  · intro h; exact List.eq_nil_of_length_eq_zero (by omega)
theorem impl_EntryOk_spec (k c q : Int) (l : List UInt8) : NN fn.impl_EntryOk [ent k c q l] = some (.bool (entP k c q l.length)) := by
  apply S.impl_EntryOk.gives (k := 0)
  have kl := klenS_bs l
  have ki : ∀ (a b d : Int) H, kN NN fn.impl_in [.int .i64 a, .int .i64 b, .int .i64 d] H = some (.bool (decide (b ≤ a) && decide (a ≤ d))) := fun a b d H => kN_at (by simp) (impl_in_spec a b d)
  have kk : ∀ H, kN NN fn.impl_isKeys [.str (bs l)] H = some (.bool (decide (1 ≤ (l.length : Int)) && decide ((l.length : Int) ≤ 20))) := fun H => kN_at (by simp) (impl_isKeys_spec l)
  have e0 := bs_nil_len (l := l)
  have kx := ki (l.length : Int) 1 60
  unfold entP
  have hbo : ∀ {Q : Type} (K : GV → Heap → Option Q), kbox (ent k c q l) [] K = K (.ptr 0 0 4) [[.int .i64 k, .int .i64 c, .int .i64 q, .str (bs l)]] := fun K => rfl
  unfold ent at hbo ⊢
  generalize GV.str (bs l) = L at *
  have k1 := ki c 0 3
  have k2 := ki q 1 10000
  have k3 := ki c 1 60
  have k4 := ki q 1 30
  clear ki
  generalize decide (1 ≤ (l.length : Int)) = n1 at *
  generalize decide ((l.length : Int) ≤ 20) = n2 at *
  generalize decide ((l.length : Int) ≤ 60) = n3 at *
  generalize decide ((l.length : Int) = 0) = n4 at *
  generalize decide ((0:Int) ≤ c) = c1 at *
  generalize decide (c ≤ 3) = c2 at *
  generalize decide ((1:Int) ≤ c) = c3 at *
  generalize decide (c ≤ 60) = c4 at *
  generalize decide ((1:Int) ≤ q) = q1 at *
  generalize decide (q ≤ 10000) = q2 at *
  generalize decide (q ≤ 30) = q3 at *
  by_cases h1 : k = 1
  · subst h1
    cases hh : (c1 && c2)
    · rw [hh] at k1; simp [S.impl_EntryOk.run, hbo, k1, -kN_eq]
    rw [hh] at k1
    cases hg : (q1 && q2)
    · rw [hg] at k2; simp [S.impl_EntryOk.run, hbo, k1, k2, -kN_eq]
    rw [hg] at k2
    simp [S.impl_EntryOk.run, hbo, k1, k2, kk, -kN_eq]
  by_cases h2 : k = 2
  · subst h2
    by_cases hc : c = 0
    · by_cases hq : q = 0
      · simp [S.impl_EntryOk.run, hbo, hc, hq, kl, kx, -kN_eq]
      · simp [S.impl_EntryOk.run, hbo, hc, hq, -kN_eq]
    · simp [S.impl_EntryOk.run, hbo, hc, -kN_eq]
  by_cases h3 : k = 3
  · subst h3
    cases hh : (c3 && c4)
    · rw [hh] at k3; simp [S.impl_EntryOk.run, hbo, k3, -kN_eq]
    rw [hh] at k3
    cases hg : (q1 && q3)
    · rw [hg] at k4; simp [S.impl_EntryOk.run, hbo, k3, k4, -kN_eq]
    rw [hg] at k4
    simp [S.impl_EntryOk.run, hbo, k3, k4, e0, -kN_eq, -kbin_seql]
  · simp [S.impl_EntryOk.run, hbo, h1, h2, h3, -kN_eq]
theorem spec_EntryOk_spec (k c q : Int) (l : List UInt8) : NN fn.spec_EntryOk [ent k c q l] = some (.bool (entP k c q l.length)) := by
  apply S.spec_EntryOk.gives (k := 0)
  have kl := klenS_bs l
  have ki : ∀ (a b d : Int) H, kN NN fn.spec_l1In [.int .i64 a, .int .i64 b, .int .i64 d] H = some (.bool (decide (b ≤ a) && decide (a ≤ d))) := fun a b d H => kN_at (by simp) (spec_l1In_spec a b d)
  have o1 : kbin .geq (.int .i64 (l.length : Int)) (.int .i64 1) = some (.bool (decide (1 ≤ (l.length : Int)))) := kbin_geq
  have o2 : kbin .leq (.int .i64 (l.length : Int)) (.int .i64 20) = some (.bool (decide ((l.length : Int) ≤ 20))) := kbin_leq
  have o3 : kbin .leq (.int .i64 (l.length : Int)) (.int .i64 60) = some (.bool (decide ((l.length : Int) ≤ 60))) := kbin_leq
  have o4 : kbin .eql (.int .i64 (l.length : Int)) (.int .i64 0) = some (.bool (decide ((l.length : Int) = 0))) := kbin_eql
  unfold entP
  have hbo : ∀ {Q : Type} (K : GV → Heap → Option Q), kbox (ent k c q l) [] K = K (.ptr 0 0 4) [[.int .i64 k, .int .i64 c, .int .i64 q, .str (bs l)]] := fun K => rfl
  unfold ent at hbo ⊢
  generalize GV.str (bs l) = L at *
  have k1 := ki c 0 3
  have k2 := ki q 1 10000
  have k3 := ki c 1 60
  have k4 := ki q 1 30
  clear ki
  generalize decide (1 ≤ (l.length : Int)) = n1 at *
  generalize decide ((l.length : Int) ≤ 20) = n2 at *
  generalize decide ((l.length : Int) ≤ 60) = n3 at *
  generalize decide ((l.length : Int) = 0) = n4 at *
  generalize GV.int .i64 (l.length : Int) = NL at *
  generalize decide ((0:Int) ≤ c) = c1 at *
  generalize decide (c ≤ 3) = c2 at *
  generalize decide ((1:Int) ≤ c) = c3 at *
  generalize decide (c ≤ 60) = c4 at *
  generalize decide ((1:Int) ≤ q) = q1 at *
  generalize decide (q ≤ 10000) = q2 at *
  generalize decide (q ≤ 30) = q3 at *
  by_cases h1 : k = 1
  · subst h1
    cases hh : (c1 && c2)
    · rw [hh] at k1; simp [S.spec_EntryOk.run, hbo, kl, k1, -kN_eq]
    rw [hh] at k1
    cases hg : (q1 && q2)
    · rw [hg] at k2; simp [S.spec_EntryOk.run, hbo, kl, k1, k2, -kN_eq]
    rw [hg] at k2
    cases n1
    · simp [S.spec_EntryOk.run, hbo, kl, k1, k2, o1, -kN_eq]
    simp [S.spec_EntryOk.run, hbo, kl, k1, k2, o1, o2, -kN_eq]
  by_cases h2 : k = 2
  · subst h2
    by_cases hc : c = 0
    · by_cases hq : q = 0
      · cases n1
        · simp [S.spec_EntryOk.run, hbo, hc, hq, kl, o1, -kN_eq]
        simp [S.spec_EntryOk.run, hbo, hc, hq, kl, o1, o3, -kN_eq]
      · simp [S.spec_EntryOk.run, hbo, kl, hc, hq, -kN_eq]
    · simp [S.spec_EntryOk.run, hbo, kl, hc, -kN_eq]
  by_cases h3 : k = 3
  · subst h3
    cases hh : (c3 && c4)
    · rw [hh] at k3; simp [S.spec_EntryOk.run, hbo, kl, k3, -kN_eq]
    rw [hh] at k3
    cases hg : (q1 && q3)
    · rw [hg] at k4; simp [S.spec_EntryOk.run, hbo, kl, k3, k4, -kN_eq]
    rw [hg] at k4
    simp [S.spec_EntryOk.run, hbo, kl, k3, k4, o4, -kN_eq]
  · simp [S.spec_EntryOk.run, hbo, kl, h1, h2, h3, -kN_eq]

/-! An entry as a text. -/
def keysT : List UInt8 := [107, 101, 121, 115, 32]
def outT : List UInt8 := [111, 117, 116, 32]
def sizeT : List UInt8 := [115, 105, 122, 101, 32]
def shM (k c q : Int) (l : List UInt8) : List UInt8 :=
  if k = 1 then keysT ++ spcM [c, q] ++ [32] ++ hexM l else if k = 2 then outT ++ hexM l else sizeT ++ spcM [c, q]
def showM (k c q : Int) (l : List UInt8) : List UInt8 := if entP k c q l.length then shM k c q l else []
theorem spcM_two (c q : Int) : spcM [c, q] = itoa c ++ [32] ++ itoa q := by
  unfold spcM
  rw [List.map_cons, List.map_cons, List.map_nil, join_cons, join_one]
theorem kadd_l {A : List UInt8} {a : ByteArray} {b : List UInt8} (ha : a = bs A) (h : A.length + b.length ≤ maxLen) : kbin .add (.str a) (.str (bs b)) = some (.str (bs (A ++ b))) := by subst ha; exact kadd_bs h
theorem entP_b {k c q : Int} {n : Nat} (h : entP k c q n = true) : n ≤ 60 ∧ 0 ≤ c ∧ c ≤ 60 ∧ 0 ≤ q ∧ q ≤ 10000 := by
  unfold entP at h
  by_cases h1 : k = 1
  · simp [h1] at h; omega
  · by_cases h2 : k = 2
    · simp [h2] at h; omega
    · simp [h1, h2] at h; omega
theorem spaced_two (c q : Int) (hc : 0 ≤ c ∧ c ≤ 60) (hq : 0 ≤ q ∧ q ≤ 10000) (B : List GV) : kN NN fn.impl_spaced [.sl 1 0 2 2 1] [B, [.int .i64 c, .int .i64 q]] = some (.str (bs (spcM [c, q]))) := by
  obtain ⟨r, hr⟩ := bor_sl (mk := ci) (fun _ => rfl) (fun _ => rfl) (l := [c, q]) (h := [B, [.int .i64 c, .int .i64 q]]) (b := 1) rfl
  refine kN_at (xs := [fzl true 1 ci [c, q]]) ?_ (impl_spaced_spec [c, q] (by simp) (fun n hn => ?_))
  · have hr' : bor 9 [B, [.int .i64 c, .int .i64 q]] (.sl 1 0 2 2 1) = some (fzl true 1 ci [c, q], r) := hr
    rw [bors_cons, hr']; rfl
  · simp only [List.mem_cons, List.not_mem_nil, or_false] at hn
    rcases hn with rfl | rfl <;> omega
theorem impl_ShowEntry_spec (k c q : Int) (l : List UInt8) : NN fn.impl_ShowEntry [ent k c q l] = some (.str (bs (showM k c q l))) := by
  apply S.impl_ShowEntry.gives (k := 0)
  have ok : ∀ H, kN NN fn.impl_EntryOk [ent k c q l] H = some (.bool (entP k c q l.length)) := fun H => kN_at (by simp [ent]) (impl_EntryOk_spec k c q l)
  have hbo : ∀ {Q : Type} (K : GV → Heap → Option Q), kbox (ent k c q l) [] K = K (.ptr 0 0 4) [[.int .i64 k, .int .i64 c, .int .i64 q, .str (bs l)]] := fun K => rfl
  have hld : kloadA 4 [[.int .i64 k, .int .i64 c, .int .i64 q, .str (bs l)]] (.ptr 0 0 4) = some (ent k c q l) := by simp [ent]
  unfold showM
  by_cases hP : entP k c q l.length = true
  case neg =>
    rw [if_neg hP]
    have hP' : entP k c q l.length = false := by simpa using hP
    rw [hP'] at ok
    generalize ent k c q l = E at *
    simp [S.impl_ShowEntry.run, hbo, hld, ok, -kN_eq, -kloadA_ptr, -kbox_agg]
  rw [if_pos hP]
  rw [hP] at ok
  obtain ⟨b1, b2, b3, b4, b5⟩ := entP_b hP
  have sp := spaced_two c q ⟨b2, b3⟩ ⟨b4, b5⟩
  have hx : ∀ H, kN NN fn.impl_hex [.str (bs l)] H = some (.str (bs (hexM l))) := fun H => kN_at (by simp) (impl_hex_spec l (by omega))
  have z1 := itoa_len (n := c) (by omega) (by omega)
  have z2 := itoa_len (n := q) (by omega) (by omega)
  have zs : (spcM [c, q]).length ≤ 41 := by rw [spcM_two]; simp only [List.length_append, List.length_singleton]; omega
  have zh := hexM_len l
  have gf := gfill_two (v := .int .i64 c) (w := .int .i64 q) (z := .int .i64 0) rfl rfl
  have p1 := sp [.int .i64 k, .int .i64 c, .int .i64 q, .str (bs l)]
  unfold shM
  have l0 : kload1 [[.int .i64 k, .int .i64 c, .int .i64 q, .str (bs l)]] (.ptr 0 0 4) = some (.int .i64 k) := by simp
  have l1 : kload1 [[.int .i64 k, .int .i64 c, .int .i64 q, .str (bs l)]] (.ptr 0 1 4) = some (.int .i64 c) := by simp
  have l2 : kload1 [[.int .i64 k, .int .i64 c, .int .i64 q, .str (bs l)]] (.ptr 0 2 4) = some (.int .i64 q) := by simp
  have l3 : kload1 [[.int .i64 k, .int .i64 c, .int .i64 q, .str (bs l)]] (.ptr 0 3 4) = some (.str (bs l)) := by simp
  have l3' : kload1 [[.int .i64 k, .int .i64 c, .int .i64 q, .str (bs l)], [.int .i64 c, .int .i64 q]] (.ptr 0 3 4) = some (.str (bs l)) := by simp
  have kbs2 : ∀ {Q : Type} (K : GV → Heap → Option Q), kbs 2 1 [.int .i64 c, .int .i64 q] [[.int .i64 k, .int .i64 c, .int .i64 q, .str (bs l)]] K = K (.sl 1 0 2 2 1) [[.int .i64 k, .int .i64 c, .int .i64 q, .str (bs l)], [.int .i64 c, .int .i64 q]] := fun K => rfl
  by_cases h1 : k = 1
  · rw [if_pos h1]
    have a1 : kbin .add (.str { data := #[107, 101, 121, 115, 32] }) (.str (bs (spcM [c, q]))) = some (.str (bs (keysT ++ spcM [c, q]))) := kadd_l (A := keysT) rfl (by simp only [keysT, List.length_cons, List.length_nil, maxLen]; omega)
    have a2 : kbin .add (.str (bs (keysT ++ spcM [c, q]))) (.str { data := #[32] }) = some (.str (bs (keysT ++ spcM [c, q] ++ [32]))) := kadd_c (B := [32]) rfl (by simp only [keysT, List.length_append, List.length_cons, List.length_nil, maxLen]; omega)
    have a3 := kadd_bs (a := keysT ++ spcM [c, q] ++ [32]) (b := hexM l) (by simp only [keysT, List.length_append, List.length_cons, List.length_nil, maxLen]; omega)
    have fT := fun h => finN_bs (keysT ++ spcM [c, q] ++ [32] ++ hexM l) h
    generalize GV.str (bs (keysT ++ spcM [c, q] ++ [32] ++ hexM l)) = X4 at *
    generalize GV.str (bs (keysT ++ spcM [c, q] ++ [32])) = X3 at *
    generalize GV.str (bs (keysT ++ spcM [c, q])) = X2 at *
    generalize GV.str (bs (spcM [c, q])) = X1 at *
    generalize GV.str (bs (hexM l)) = Y at *
    generalize GV.str (bs l) = L at *
    generalize ent k c q l = E at *
    subst h1
    simp [S.impl_ShowEntry.run, hbo, hld, ok, l0, l1, l2, l3, l3', gf, kbs2, p1, a1, a2, a3, hx, fT, -kN_eq, -kloadA_ptr, -kbox_agg, -kload1_ptr]
    simp [chk, meets, touches]
  rw [if_neg h1]
  by_cases h2 : k = 2
  · rw [if_pos h2]
    have a1 : kbin .add (.str { data := #[111, 117, 116, 32] }) (.str (bs (hexM l))) = some (.str (bs (outT ++ hexM l))) := kadd_l (A := outT) rfl (by simp only [outT, List.length_cons, List.length_nil, maxLen]; omega)
    have fT := fun h => finN_bs (outT ++ hexM l) h
    generalize GV.str (bs (outT ++ hexM l)) = X4 at *
    generalize GV.str (bs (hexM l)) = Y at *
    generalize GV.str (bs l) = L at *
    generalize ent k c q l = E at *
    subst h2
    simp [S.impl_ShowEntry.run, hbo, hld, ok, l0, l1, l2, l3, l3', gf, kbs2, p1, a1, hx, fT, -kN_eq, -kloadA_ptr, -kbox_agg, -kload1_ptr]
  rw [if_neg h2]
  have a1 : kbin .add (.str { data := #[115, 105, 122, 101, 32] }) (.str (bs (spcM [c, q]))) = some (.str (bs (sizeT ++ spcM [c, q]))) := kadd_l (A := sizeT) rfl (by simp only [sizeT, List.length_cons, List.length_nil, maxLen]; omega)
  have fT := fun h => finN_bs (sizeT ++ spcM [c, q]) h
  generalize GV.str (bs (sizeT ++ spcM [c, q])) = X4 at *
  generalize GV.str (bs (spcM [c, q])) = X1 at *
  generalize GV.str (bs l) = L at *
  generalize ent k c q l = E at *
  simp [S.impl_ShowEntry.run, hbo, hld, ok, h1, h2, l0, l1, l2, l3, l3', gf, kbs2, p1, a1, hx, fT, -kN_eq, -kloadA_ptr, -kbox_agg, -kload1_ptr]
theorem spec_l18Show_spec (k c q : Int) (l : List UInt8) (hl : l.length ≤ 1048576) (hc : -9223372036854775808 ≤ c ∧ c ≤ 9223372036854775807) (hq : -9223372036854775808 ≤ q ∧ q ≤ 9223372036854775807) : NN fn.spec_l18Show [ent k c q l] = some (.str (bs (shM k c q l))) := by
  apply S.spec_l18Show.gives (k := 0)
  have hbo : ∀ {Q : Type} (K : GV → Heap → Option Q), kbox (ent k c q l) [] K = K (.ptr 0 0 4) [[.int .i64 k, .int .i64 c, .int .i64 q, .str (bs l)]] := fun K => rfl
  have hx : ∀ H, kN NN fn.spec_l18Hex [.str (bs l)] H = some (.str (bs (hexM l))) := fun H => kN_at (by simp) (spec_l18Hex_spec l hl)
  have d1 : ∀ H, kN NN fn.spec_l3Int [.int .i64 c] H = some (.str (bs (itoa c))) := fun H => kN_at (by simp) (spec_l3Int_spec _ hc.1 hc.2)
  have d2 : ∀ H, kN NN fn.spec_l3Int [.int .i64 q] H = some (.str (bs (itoa q))) := fun H => kN_at (by simp) (spec_l3Int_spec _ hq.1 hq.2)
  have z1 := itoa_len (n := c) hc.1 hc.2
  have z2 := itoa_len (n := q) hq.1 hq.2
  have zh := hexM_len l
  unfold shM
  rw [spcM_two]
  have l0 : kload1 [[.int .i64 k, .int .i64 c, .int .i64 q, .str (bs l)]] (.ptr 0 0 4) = some (.int .i64 k) := by simp
  have l1 : kload1 [[.int .i64 k, .int .i64 c, .int .i64 q, .str (bs l)]] (.ptr 0 1 4) = some (.int .i64 c) := by simp
  have l2 : kload1 [[.int .i64 k, .int .i64 c, .int .i64 q, .str (bs l)]] (.ptr 0 2 4) = some (.int .i64 q) := by simp
  have l3 : kload1 [[.int .i64 k, .int .i64 c, .int .i64 q, .str (bs l)]] (.ptr 0 3 4) = some (.str (bs l)) := by simp
  by_cases h1 : k = 1
  · rw [if_pos h1, show keysT ++ (itoa c ++ [32] ++ itoa q) ++ [32] ++ hexM l = keysT ++ itoa c ++ [32] ++ itoa q ++ [32] ++ hexM l by simp]
    have a1 : kbin .add (.str { data := #[107, 101, 121, 115, 32] }) (.str (bs (itoa c))) = some (.str (bs (keysT ++ itoa c))) := kadd_l (A := keysT) rfl (by simp only [keysT, List.length_cons, List.length_nil, maxLen]; omega)
    have a2 : kbin .add (.str (bs (keysT ++ itoa c))) (.str { data := #[32] }) = some (.str (bs (keysT ++ itoa c ++ [32]))) := kadd_c (B := [32]) rfl (by simp only [keysT, List.length_append, List.length_cons, List.length_nil, maxLen]; omega)
    have a3 := kadd_bs (a := keysT ++ itoa c ++ [32]) (b := itoa q) (by simp only [keysT, List.length_append, List.length_cons, List.length_nil, maxLen]; omega)
    have a4 : kbin .add (.str (bs (keysT ++ itoa c ++ [32] ++ itoa q))) (.str { data := #[32] }) = some (.str (bs (keysT ++ itoa c ++ [32] ++ itoa q ++ [32]))) := kadd_c (B := [32]) rfl (by simp only [keysT, List.length_append, List.length_cons, List.length_nil, maxLen]; omega)
    have a5 := kadd_bs (a := keysT ++ itoa c ++ [32] ++ itoa q ++ [32]) (b := hexM l) (by simp only [keysT, List.length_append, List.length_cons, List.length_nil, maxLen]; omega)
    have fT := fun h => finN_bs (keysT ++ itoa c ++ [32] ++ itoa q ++ [32] ++ hexM l) h
    generalize GV.str (bs (keysT ++ itoa c ++ [32] ++ itoa q ++ [32] ++ hexM l)) = X6 at *
    generalize GV.str (bs (keysT ++ itoa c ++ [32] ++ itoa q ++ [32])) = X5 at *
    generalize GV.str (bs (keysT ++ itoa c ++ [32] ++ itoa q)) = X4 at *
    generalize GV.str (bs (keysT ++ itoa c ++ [32])) = X3 at *
    generalize GV.str (bs (keysT ++ itoa c)) = X2 at *
    generalize GV.str (bs (itoa c)) = X1 at *
    generalize GV.str (bs (itoa q)) = X0 at *
    generalize GV.str (bs (hexM l)) = Y at *
    generalize GV.str (bs l) = L at *
    generalize ent k c q l = E at *
    subst h1
    simp [S.spec_l18Show.run, hbo, l0, l1, l2, l3, d1, d2, a1, a2, a3, a4, a5, hx, fT, -kN_eq, -kbox_agg, -kload1_ptr]
  rw [if_neg h1]
  by_cases h2 : k = 2
  · rw [if_pos h2]
    have a1 : kbin .add (.str { data := #[111, 117, 116, 32] }) (.str (bs (hexM l))) = some (.str (bs (outT ++ hexM l))) := kadd_l (A := outT) rfl (by simp only [outT, List.length_cons, List.length_nil, maxLen]; omega)
    have fT := fun h => finN_bs (outT ++ hexM l) h
    generalize GV.str (bs (outT ++ hexM l)) = X4 at *
    generalize GV.str (bs (hexM l)) = Y at *
    generalize GV.str (bs l) = L at *
    generalize ent k c q l = E at *
    subst h2
    simp [S.spec_l18Show.run, hbo, l0, l1, l2, l3, a1, hx, fT, -kN_eq, -kbox_agg, -kload1_ptr]
  rw [if_neg h2, show sizeT ++ (itoa c ++ [32] ++ itoa q) = sizeT ++ itoa c ++ [32] ++ itoa q by simp]
  have a1 : kbin .add (.str { data := #[115, 105, 122, 101, 32] }) (.str (bs (itoa c))) = some (.str (bs (sizeT ++ itoa c))) := kadd_l (A := sizeT) rfl (by simp only [sizeT, List.length_cons, List.length_nil, maxLen]; omega)
  have a2 : kbin .add (.str (bs (sizeT ++ itoa c))) (.str { data := #[32] }) = some (.str (bs (sizeT ++ itoa c ++ [32]))) := kadd_c (B := [32]) rfl (by simp only [sizeT, List.length_append, List.length_cons, List.length_nil, maxLen]; omega)
  have a3 := kadd_bs (a := sizeT ++ itoa c ++ [32]) (b := itoa q) (by simp only [sizeT, List.length_append, List.length_cons, List.length_nil, maxLen]; omega)
  have fT := fun h => finN_bs (sizeT ++ itoa c ++ [32] ++ itoa q) h
  generalize GV.str (bs (sizeT ++ itoa c ++ [32] ++ itoa q)) = X4 at *
  generalize GV.str (bs (sizeT ++ itoa c ++ [32])) = X3 at *
  generalize GV.str (bs (sizeT ++ itoa c)) = X2 at *
  generalize GV.str (bs (itoa c)) = X1 at *
  generalize GV.str (bs (itoa q)) = X0 at *
  generalize GV.str (bs l) = L at *
  generalize ent k c q l = E at *
  simp [S.spec_l18Show.run, hbo, h1, h2, l0, l1, l2, l3, d1, d2, a1, a2, a3, fT, -kN_eq, -kbox_agg, -kload1_ptr]
theorem spec_ShowEntry_spec (k c q : Int) (l : List UInt8) : NN fn.spec_ShowEntry [ent k c q l] = some (.str (bs (showM k c q l))) := by
  apply S.spec_ShowEntry.gives (k := 0)
  have ok : ∀ H, kN NN fn.spec_EntryOk [ent k c q l] H = some (.bool (entP k c q l.length)) := fun H => kN_at (by simp [ent]) (spec_EntryOk_spec k c q l)
  have hbo : ∀ {Q : Type} (K : GV → Heap → Option Q), kbox (ent k c q l) [] K = K (.ptr 0 0 4) [[.int .i64 k, .int .i64 c, .int .i64 q, .str (bs l)]] := fun K => rfl
  have hld : kloadA 4 [[.int .i64 k, .int .i64 c, .int .i64 q, .str (bs l)]] (.ptr 0 0 4) = some (ent k c q l) := by simp [ent]
  unfold showM
  by_cases hP : entP k c q l.length = true
  case neg =>
    rw [if_neg hP]
    have hP' : entP k c q l.length = false := by simpa using hP
    rw [hP'] at ok
    generalize ent k c q l = E at *
    simp [S.spec_ShowEntry.run, hbo, hld, ok, -kN_eq, -kloadA_ptr, -kbox_agg]
  rw [if_pos hP]
  rw [hP] at ok
  obtain ⟨b1, b2, b3, b4, b5⟩ := entP_b hP
  have sh : ∀ H, kN NN fn.spec_l18Show [ent k c q l] H = some (.str (bs (shM k c q l))) := fun H => kN_at (by simp [ent]) (spec_l18Show_spec k c q l (by omega) (by omega) (by omega))
  have fT := fun h => finN_bs (shM k c q l) h
  generalize GV.str (bs (shM k c q l)) = X4 at *
  generalize ent k c q l = E at *
  simp [S.spec_ShowEntry.run, hbo, hld, ok, sh, fT, -kN_eq, -kloadA_ptr, -kbox_agg]
end Go.Proofs.YtklhdbkaejbajaaDoor.G
