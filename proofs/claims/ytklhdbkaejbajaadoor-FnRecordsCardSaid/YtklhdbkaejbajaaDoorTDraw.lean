/- Draws: a cursor over bytes, in a block of its own; what is drawn lies in some range, and no other block is changed. -/
import Derived.Test.YtklhdbkaejbajaaDoorTIn
import Derived.Test.YtklhdbkaejbajaaDoorTFr
import Derived.Test.YtklhdbkaejbajaaDoorSD
namespace Go.Proofs.YtklhdbkaejbajaaDoor.G
open Go.RowKit Go.Lib
set_option linter.unusedVariables false
set_option linter.unusedSimpArgs false

@[simp] theorem knil_ptr {i o t : Nat} : knil (.ptr i o t) = some (.ptr i o t) := rfl
@[simp] theorem kchk_true {Q : Type} {x : Option Q} : kchk true x = x := rfl
/-- The cursor over these bytes, in block p. -/
def Cur (p : Nat) (code : List UInt8) (H : Heap) : Prop := ∃ i h : Int, H[p]? = some [fzl true 1 cy code, .int .i64 i, .int .i64 h] ∧ 0 ≤ i ∧ i ≤ code.length
/-- After a draw. -/
def Dr (p : Nat) (code : List UInt8) (H H' : Heap) : Prop := Cur p code H' ∧ Fr [p] H H'
theorem Cur.lt {p : Nat} {code : List UInt8} {H : Heap} (h : Cur p code H) : p < H.length := by
  obtain ⟨i, k, h1, _⟩ := h
  exact (List.getElem?_eq_some_iff.1 h1).1
theorem Dr.refl {p : Nat} {code : List UInt8} {H : Heap} (h : Cur p code H) : Dr p code H H := ⟨h, Fr.refl⟩
theorem Dr.trans {p : Nat} {code : List UInt8} {H H' H'' : Heap} (a : Dr p code H H') (b : Dr p code H' H'') : Dr p code H H'' := ⟨b.1, a.2.trans b.2⟩
theorem Cur.app {p : Nat} {code : List UInt8} {H T : Heap} (h : Cur p code H) : Cur p code (H ++ T) := by
  obtain ⟨i, k, h1, h2⟩ := h
  exact ⟨i, k, by rw [List.getElem?_append_left (List.getElem?_eq_some_iff.1 h1).1]; exact h1, h2⟩
theorem Dr.app {p : Nat} {code : List UInt8} {H T : Heap} (h : Cur p code H) : Dr p code H (H ++ T) := ⟨h.app, Fr.app⟩
theorem Dr.get {p : Nat} {code : List UInt8} {H H' : Heap} (h : Dr p code H H') {i : Nat} {c : List GV} (hi : i ≠ p) (e : H[i]? = some c) : H'[i]? = some c := by
  rw [h.2.2 i (List.getElem?_eq_some_iff.1 e).1 (by simpa using hi)]; exact e
theorem nbs_cy : ∀ (l : List UInt8), nbs (l.flatMap cy) = true
  | [] => rfl
  | b :: l => by rw [List.flatMap_cons]; show (nbi _ && nbs (l.flatMap cy)) = true; rw [nbs_cy l]; rfl
theorem nbi_cy (t : Bool) (l : List UInt8) : nbi (fzl t 1 cy l) = true := by
  cases l with
  | nil => rfl
  | cons b l => exact nbs_cy (b :: l)
theorem Cur.flat {p : Nat} {code : List UInt8} {H : Heap} (h : Cur p code H) {o t : Nat} {xs : List GV} (hx : xs.all nbi = true) (hb : xs.flatMap kblk = []) : kflat H (.ptr p o t :: xs) = true ∧ kreach H (.ptr p o t :: xs) = [p] := by
  obtain ⟨i, k, h1, _⟩ := h
  refine ⟨?_, ?_⟩
  · unfold kflat
    rw [Bool.and_eq_true]
    refine ⟨?_, ?_⟩
    · rw [List.all_cons, Bool.and_eq_true]
      refine ⟨rfl, ?_⟩
      rw [List.all_eq_true] at hx ⊢
      exact fun g hg => by rw [hx g hg, Bool.or_true]
    · rw [List.flatMap_cons, hb]
      simp [kblk, h1, nbs, nbi_cy, nbi]
  · unfold kreach; rw [List.flatMap_cons, hb]; rfl

theorem kbin_and255 (a : Int) : ∃ y : Int, kbin .and (.int .i64 a) (.int .i64 255) = some (.int .i64 y) ∧ 0 ≤ y ∧ y ≤ 255 := by
  have h : (BitVec.ofInt 64 a &&& BitVec.ofInt 64 255).toNat ≤ 255 := by
    rw [BitVec.toNat_and]
    exact Nat.le_trans Nat.and_le_right (by decide)
  refine ⟨((BitVec.ofInt 64 a &&& BitVec.ofInt 64 255).toNat : Int), ?_, by omega, by omega⟩
  show some (GV.int .i64 (IntKind.i64.wrap _)) = _
  rw [show IntKind.bits .i64 = 64 from rfl, wrap_id (by omega) (by omega)]
theorem kbin_ex (op : BinOp) (h : op = .add ∨ op = .sub ∨ op = .mul ∨ op = .and ∨ op = .xor) (a b : Int) : ∃ y : Int, kbin op (.int .i64 a) (.int .i64 b) = some (.int .i64 y) := by
  rcases h with rfl | rfl | rfl | rfl | rfl <;> exact ⟨_, rfl⟩
theorem kshr33 (a : Int) : ∃ y : Int, kbin .shr (.int .i64 a) (.int .u64 33) = some (.int .i64 y) := ⟨_, rfl⟩
theorem kshr45 (a : Int) : ∃ y : Int, kbin .shr (.int .i64 a) (.int .u64 45) = some (.int .i64 y) := ⟨_, rfl⟩
theorem kia_cy {code : List UInt8} {i : Int} (h : 0 ≤ i) (h' : i < code.length) : kia 1 (fzl true 1 cy code) (.int .i64 i) = some (elp true cy code i.toNat) := by
  rw [kia_fzl (es := 1) (fun _ => rfl), if_pos ⟨h, h'⟩]
theorem kload1_cy {H : Heap} {code : List UInt8} {j : Nat} (h : j < code.length) : kload1 H (elp true cy code j) = some (.int .u8 (code[j].toNat : Int)) := by
  unfold kload1 elp kread
  rw [List.drop_eq_getElem_cons h, List.flatMap_cons]
  show (Option.bind (if 1 ≤ (_ :: _ : List GV).length then some ((GV.int .u8 (code[j].toNat : Int) :: List.flatMap cy _).take 1) else none) one) = _
  rw [if_pos (by simp)]
  rfl

theorem spec_l1New_spec (code : List UInt8) (H : Heap) (hl : code.length ≤ 1048576) : ∃ H', HH fn.spec_l1New [fzl true 1 cy code] H = some (.ptr H.length 0 3, H') ∧ Cur H.length code H' ∧ Fr [] H H' := by
  have kl : klen (fzl true 1 cy code) = some (.int .i64 (code.length : Nat)) := klen_fzl
  obtain ⟨h0, e0⟩ := kbin_ex .add (by simp) 110017 (code.length : Nat)
  have key := loop_inv (T := Int) (Inv := fun _ _ => True) (n := code.length) (f := fun r j x => S.spec_l1New.l6 (code.length + 1) (fun x v0 v2 v3 h => kb 0 x fun x => kx x (S.spec_l1New.n3 (code.length + 1) (fun x v2 h => kend x (finH v2 h)) v0 v3 h) (kend x (finH v2 h))) r (fzl true 1 cy code) .nilp (.int .i64 x) (.int .i64 (j : Nat)) H) (A := fun x => some (GV.ptr H.length 0 3, H ++ [[fzl true 1 cy code, .int .i64 0, .int .i64 x]])) (m := code.length + 1)
    (fun j r x hj _ => by
      have h1 : (j : Int) < code.length := by omega
      have ki := kia_cy (code := code) (i := (j : Nat)) (by omega) h1
      have ld := kload1_cy (H := H) (code := code) (j := j) hj
      rw [show ((j : Nat) : Int).toNat = j by omega] at ki
      have w := wrap_succ (n := j) (by simp only [maxLen]; omega)
      obtain ⟨x1, e1⟩ := kbin_ex .mul (by simp) x 137
      obtain ⟨x2, e2⟩ := kbin_ex .add (by simp) x1 (code[j].toNat : Int)
      obtain ⟨x3, e3⟩ := kbin_ex .add (by simp) x2 11
      obtain ⟨x4, e4⟩ := kbin_ex .and (by simp) x3 1073741823
      refine ⟨x4, ?_, trivial⟩
      have cv : kconvI .i64 (.int .u8 (code[j].toNat : Int)) = some (.int .i64 (code[j].toNat : Int)) := by rw [kconvI_int, wrap8_64]
      have lt : kbin .lss (.int .i64 (j : Nat)) (.int .i64 (code.length : Nat)) = some (.bool true) := by rw [kbin_lss, decide_eq_true h1]
      have ad : kbin .add (.int .i64 (j : Nat)) (.int .i64 1) = some (.int .i64 ((j + 1 : Nat) : Int)) := by rw [kbin_add, w]; rfl
      generalize fzl true 1 cy code = C at *
      generalize (code[j].toNat : Int) = B at *
      generalize GV.int .i64 ((j + 1 : Nat) : Int) = J' at *
      generalize GV.int .i64 (j : Nat) = J at *
      simp [S.spec_l1New.l6, kl, lt, ki, ld, cv, e1, e2, e3, e4, ad, -kbin_add, -kbin_mul])
    (fun r x _ => by
      have lt : kbin .lss (.int .i64 (code.length : Nat)) (.int .i64 (code.length : Nat)) = some (.bool false) := by rw [kbin_lss, decide_eq_false (by omega)]
      have gf : gfill (fun i => ([(0, 1), (1, 1), (2, 1)] : List (Nat × Nat))[i]?) [.nils, (.int .i64 0), (.int .i64 0)] [(0, fzl true 1 cy code), (2, .int .i64 x)] = some [fzl true 1 cy code, .int .i64 0, .int .i64 x] := by
        simp [gfill]
      generalize fzl true 1 cy code = C at *
      generalize GV.int .i64 (code.length : Nat) = L at *
      simp [S.spec_l1New.l6, kl, lt, gf, finH]) (s := h0) trivial (by omega)
  obtain ⟨x, k1, _⟩ := key
  refine ⟨H ++ [[fzl true 1 cy code, .int .i64 0, .int .i64 x]], ?_, ⟨0, x, by simp, by omega, by omega⟩, Fr.app⟩
  apply S.spec_l1New.gives (k := code.length + 1)
  refine Eq.trans ?_ k1
  generalize fzl true 1 cy code = C at *
  simp [S.spec_l1New.run, kl, e0, -kbin_add]

theorem cur_ld {H : Heap} {p : Nat} {a b c : GV} (h : H[p]? = some [a, b, c]) : kload1 H (.ptr p 0 3) = some a ∧ kload1 H (.ptr p 1 3) = some b ∧ kload1 H (.ptr p 2 3) = some c :=
  ⟨kload1_at h rfl, kload1_at h rfl, kload1_at h rfl⟩
theorem cur_st {H : Heap} {p : Nat} {a b c x : GV} (h : H[p]? = some [a, b, c]) (hx : x.cells = [x]) (hc : x.isCell = true) : kstore 1 H (.ptr p 1 3) x = some (H.set p [a, x, c]) ∧ kstore 1 H (.ptr p 2 3) x = some (H.set p [a, b, x]) :=
  ⟨kstore_at h rfl (by omega) hx hc, kstore_at h rfl (by omega) hx hc⟩
theorem set_get {H : Heap} {p : Nat} {c d : List GV} (h : H[p]? = some c) : (H.set p d)[p]? = some d := List.getElem?_set_self (List.getElem?_eq_some_iff.1 h).1

theorem spec_l1Byte_spec {p : Nat} {code : List UInt8} {H : Heap} (hl : code.length ≤ 1048576) (hc : Cur p code H) : ∃ (x : Int) (H' : Heap), HH fn.spec_l1Byte [.ptr p 0 3] H = some (.int .i64 x, H') ∧ 0 ≤ x ∧ x ≤ 255 ∧ Dr p code H H' := by
  obtain ⟨i, h, hH, hi, hi'⟩ := hc
  have kl : klen (fzl true 1 cy code) = some (.int .i64 (code.length : Nat)) := klen_fzl
  obtain ⟨h1, e1⟩ := kbin_ex .mul (by simp) h 6364136223846793005
  obtain ⟨h2, e2⟩ := kbin_ex .add (by simp) h1 1442695040888963407
  obtain ⟨y1, e3⟩ := kshr33 h2
  obtain ⟨y2, e4⟩ := kshr45 h2
  obtain ⟨y3, e5⟩ := kbin_ex .xor (by simp) y1 y2
  obtain ⟨y4, e6, b1, b2⟩ := kbin_and255 y3
  obtain ⟨l0, l1, l2⟩ := cur_ld hH
  obtain ⟨_, s2⟩ := cur_st hH (x := .int .i64 h2) rfl rfl
  have hH1 := set_get (d := [fzl true 1 cy code, .int .i64 i, .int .i64 h2]) hH
  have f1 : Fr [p] H (H.set p [fzl true 1 cy code, .int .i64 i, .int .i64 h2]) := Fr.set (by simp)
  obtain ⟨H1, hHe⟩ : ∃ H1, H.set p [fzl true 1 cy code, .int .i64 i, .int .i64 h2] = H1 := ⟨_, rfl⟩
  rw [hHe] at hH1 f1 s2
  obtain ⟨m0, m1, m2⟩ := cur_ld hH1
  by_cases hlt : i < code.length
  · have lt : kbin .lss (.int .i64 i) (.int .i64 (code.length : Nat)) = some (.bool true) := by rw [kbin_lss, decide_eq_true hlt]
    have ki := kia_cy (code := code) hi hlt
    have hj : i.toNat < code.length := by omega
    have ld := kload1_cy (H := H1) (code := code) hj
    have cv : kconvI .i64 (.int .u8 (code[i.toNat].toNat : Int)) = some (.int .i64 (code[i.toNat].toNat : Int)) := by rw [kconvI_int, wrap8_64]
    obtain ⟨y5, e7⟩ := kbin_ex .add (by simp) y4 (code[i.toNat].toNat : Int)
    obtain ⟨y6, e8, b3, b4⟩ := kbin_and255 y5
    have ad : kbin .add (.int .i64 i) (.int .i64 1) = some (.int .i64 (i + 1)) := by rw [kbin_add, wrap_id (by omega) (by omega)]
    obtain ⟨t1, _⟩ := cur_st hH1 (x := .int .i64 (i + 1)) rfl rfl
    have hH2 := set_get (d := [fzl true 1 cy code, .int .i64 (i + 1), .int .i64 h2]) hH1
    refine ⟨y6, H1.set p [fzl true 1 cy code, .int .i64 (i + 1), .int .i64 h2], ?_, b3, b4, ⟨i + 1, h2, hH2, by omega, by omega⟩, f1.trans (Fr.set (by simp))⟩
    apply S.spec_l1Byte.gives (k := 0)
    generalize H1.set p [fzl true 1 cy code, .int .i64 (i + 1), .int .i64 h2] = H2 at *
    generalize (code[i.toNat].toNat : Int) = B at *
    generalize fzl true 1 cy code = C at *
    generalize GV.int .i64 (i + 1) = I' at *
    generalize GV.int .i64 i = I at *
    generalize GV.int .i64 (code.length : Nat) = L at *
    generalize GV.int .i64 h2 = X2 at *
    generalize GV.int .i64 h1 = X1 at *
    generalize GV.int .i64 h = X0 at *
    clear hH hH1 hH2 hHe
    simp [S.spec_l1Byte.run, kl, l0, l1, l2, m0, m1, m2, s2, t1, lt, ki, ld, cv, e1, e2, e3, e4, e5, e6, e7, e8, ad, finH, -kload1_ptr, -kstore_ptr, -kbin_add, -kbin_mul]
  · have lt : kbin .lss (.int .i64 i) (.int .i64 (code.length : Nat)) = some (.bool false) := by rw [kbin_lss, decide_eq_false hlt]
    refine ⟨y4, H1, ?_, b1, b2, ⟨i, h2, hH1, hi, hi'⟩, f1⟩
    apply S.spec_l1Byte.gives (k := 0)
    generalize fzl true 1 cy code = C at *
    generalize GV.int .i64 i = I at *
    generalize GV.int .i64 (code.length : Nat) = L at *
    generalize GV.int .i64 h2 = X2 at *
    generalize GV.int .i64 h1 = X1 at *
    generalize GV.int .i64 h = X0 at *
    clear hH hH1 hHe
    simp [S.spec_l1Byte.run, kl, l0, l1, l2, m0, m1, m2, s2, lt, e1, e2, e3, e4, e5, e6, finH, -kload1_ptr, -kstore_ptr, -kbin_add, -kbin_mul]

theorem spec_l1Below_spec {p : Nat} {code : List UInt8} {H : Heap} (hl : code.length ≤ 1048576) (hc : Cur p code H) (n : Int) : ∃ (x : Int) (H' : Heap), HH fn.spec_l1Below [.ptr p 0 3, .int .i64 n] H = some (.int .i64 x, H') ∧ 0 ≤ x ∧ (n ≤ 0 → x = 0) ∧ (0 < n → x < n) ∧ Dr p code H H' := by
  by_cases h1 : n ≤ 0
  · refine ⟨0, H, ?_, by omega, fun _ => rfl, fun h => by omega, Dr.refl hc⟩
    apply S.spec_l1Below.gives (k := 0)
    simp [S.spec_l1Below.run, h1, finH]
  by_cases h2 : n ≤ 256
  · obtain ⟨x, H1, e1, b1, b2, d1⟩ := spec_l1Byte_spec hl hc
    have rm : kbin .rem (.int .i64 x) (.int .i64 n) = some (.int .i64 (x % n)) := by rw [kbin_rem (by omega), Int.tmod_eq_emod_of_nonneg b1]
    refine ⟨x % n, H1, ?_, Int.emod_nonneg _ (by omega), fun h => by omega, fun h => Int.emod_lt_of_pos _ h, d1⟩
    apply S.spec_l1Below.gives (k := 0)
    simp [S.spec_l1Below.run, h1, h2, e1, rm, finH]
  · obtain ⟨x, H1, e1, b1, b2, d1⟩ := spec_l1Byte_spec hl hc
    obtain ⟨y, H2, e2, b3, b4, d2⟩ := spec_l1Byte_spec hl d1.1
    obtain ⟨z, H3, e3, b5, b6, d3⟩ := spec_l1Byte_spec hl d2.1
    obtain ⟨w, H4, e4, b7, b8, d4⟩ := spec_l1Byte_spec hl d3.1
    have m1 : kbin .mul (.int .i64 x) (.int .i64 16777216) = some (.int .i64 (x * 16777216)) := by rw [kbin_mul, wrap_id (by omega) (by omega)]
    have m2 : kbin .mul (.int .i64 y) (.int .i64 65536) = some (.int .i64 (y * 65536)) := by rw [kbin_mul, wrap_id (by omega) (by omega)]
    have m3 : kbin .mul (.int .i64 z) (.int .i64 256) = some (.int .i64 (z * 256)) := by rw [kbin_mul, wrap_id (by omega) (by omega)]
    have a1 : kbin .add (.int .i64 (x * 16777216)) (.int .i64 (y * 65536)) = some (.int .i64 (x * 16777216 + y * 65536)) := by rw [kbin_add, wrap_id (by omega) (by omega)]
    have a2 : kbin .add (.int .i64 (x * 16777216 + y * 65536)) (.int .i64 (z * 256)) = some (.int .i64 (x * 16777216 + y * 65536 + z * 256)) := by rw [kbin_add, wrap_id (by omega) (by omega)]
    have a3 : kbin .add (.int .i64 (x * 16777216 + y * 65536 + z * 256)) (.int .i64 w) = some (.int .i64 (x * 16777216 + y * 65536 + z * 256 + w)) := by rw [kbin_add, wrap_id (by omega) (by omega)]
    have rm : kbin .rem (.int .i64 (x * 16777216 + y * 65536 + z * 256 + w)) (.int .i64 n) = some (.int .i64 ((x * 16777216 + y * 65536 + z * 256 + w) % n)) := by rw [kbin_rem (by omega), Int.tmod_eq_emod_of_nonneg (by omega)]
    refine ⟨(x * 16777216 + y * 65536 + z * 256 + w) % n, H4, ?_, Int.emod_nonneg _ (by omega), fun h => by omega, fun h => Int.emod_lt_of_pos _ h, ((d1.trans d2).trans d3).trans d4⟩
    apply S.spec_l1Below.gives (k := 0)
    generalize GV.int .i64 ((x * 16777216 + y * 65536 + z * 256 + w) % n) = R at *
    generalize GV.int .i64 (x * 16777216 + y * 65536 + z * 256 + w) = Q4 at *
    generalize GV.int .i64 (x * 16777216 + y * 65536 + z * 256) = Q3 at *
    generalize GV.int .i64 (x * 16777216 + y * 65536) = Q2 at *
    generalize GV.int .i64 (x * 16777216) = Q1 at *
    generalize GV.int .i64 (y * 65536) = Q5 at *
    generalize GV.int .i64 (z * 256) = Q6 at *
    generalize GV.int .i64 x = X at *
    generalize GV.int .i64 y = Y at *
    generalize GV.int .i64 z = Z at *
    generalize GV.int .i64 w = W at *
    simp [S.spec_l1Below.run, h1, h2, e1, e2, e3, e4, m1, m2, m3, a1, a2, a3, rm, finH, -kbin_add, -kbin_mul]

theorem spec_l1Once_spec {p : Nat} {code : List UInt8} {H : Heap} (hl : code.length ≤ 1048576) (hc : Cur p code H) (n : Int) : ∃ (b : Bool) (H' : Heap), HH fn.spec_l1Once [.ptr p 0 3, .int .i64 n] H = some (.bool b, H') ∧ Dr p code H H' := by
  obtain ⟨x, H1, e1, _, _, _, d1⟩ := spec_l1Below_spec hl hc n
  refine ⟨decide (x = 0), H1, ?_, d1⟩
  apply S.spec_l1Once.gives (k := 0)
  simp [S.spec_l1Once.run, e1, finH]
end Go.Proofs.YtklhdbkaejbajaaDoor.G
