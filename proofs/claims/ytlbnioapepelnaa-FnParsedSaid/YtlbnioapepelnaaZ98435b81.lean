/- Draws (for the laws of the parser): a cursor over bytes, in a block of its own; what is drawn lies in some range, and no other block is changed. Data  -/
import Derived.Test.YtlbnioapepelnaaZ255b3419
import Derived.Test.YtlbnioapepelnaaZ88faeb6a
import Derived.Test.YtlbnioapepelnaaZ9f16b40d
set_option linter.unusedSimpArgs false
set_option linter.unusedVariables false
namespace Go.Proofs.Ytlbnioapepelnaa.G
open Go.RowKit

theorem wrap8_64 (b : UInt8) : IntKind.i64.wrap (b.toNat : Int) = b.toNat := by
  have : b.toNat < 256 := b.toNat_lt
  exact wrap_id (by omega) (by omega)
@[simp] theorem knil_p {i o t : Nat} : knil (.ptr i o t) = some (.ptr i o t) := rfl
@[simp] theorem kchk_true {Q : Type} {x : Option Q} : kchk true x = x := rfl
def Cur (p : Nat) (code : List UInt8) (H : Heap) : Prop := ∃ i h : Int, H[p]? = some [fzl true 1 cy code, .int .i64 i, .int .i64 h] ∧ 0 ≤ i ∧ i ≤ code.length
def Dr (p : Nat) (code : List UInt8) (H H' : Heap) : Prop := Cur p code H' ∧ Fr [p] H H'
theorem Cur.lt {p : Nat} {code : List UInt8} {H : Heap} (h : Cur p code H) : p < H.length := by
  obtain ⟨i, k, h1, _⟩ := h
  exact (List.getElem?_eq_some_iff.1 h1).1
theorem Dr.refl {p : Nat} {code : List UInt8} {H : Heap} (h : Cur p code H) : Dr p code H H := ⟨h, Fr.refl⟩
theorem Dr.trans {p : Nat} {code : List UInt8} {H H' H'' : Heap} (a : Dr p code H H') (b : Dr p code H' H'') : Dr p code H H'' := ⟨b.1, a.2.trans b.2⟩
theorem Cur.app {p : Nat} {code : List UInt8} {H T : Heap} (h : Cur p code H) : Cur p code (H ++ T) := by
  obtain ⟨i, k, h1, h2⟩ := h
  exact ⟨i, k, by rw [List.getElem?_append_left (List.getElem?_eq_some_iff.1 h1).1]; exact h1, h2⟩
theorem Dr.app {p : Nat} {code : List UInt8} {H T : Heap} (h : Cur p code H) : Dr p code H (H ++ T) := ⟨h.app, Fr.app⟩
theorem Dr.get {p : Nat} {code : List UInt8} {H H' : Heap} (h : Dr p code H H') {i : Nat} {c : List GV} (hi : i ≠ p) (e : H[i]? = some c) : H'[i]? = some c := by
  rw [h.2.2 i (List.getElem?_eq_some_iff.1 e).1 (by simpa using hi)]; exact e
theorem nbs_cy : ∀ (l : List UInt8), nbs (l.flatMap cy) = true
  | [] => rfl
  | b :: l => by rw [List.flatMap_cons]; show (nbi _ && nbs (l.flatMap cy)) = true; rw [nbs_cy l]; rfl
theorem nbi_cy (t : Bool) (l : List UInt8) : nbi (fzl t 1 cy l) = true := by
  cases l with
  | nil => rfl
  | cons b l => exact nbs_cy (b :: l)
theorem kcl_fz {t : Bool} {n es : Nat} {c : List GV} {H : Heap} (h : nbi (.fz t n es c) = true) : ∀ d, kcl d H (.fz t n es c) = some []
  | 0 => by show (bif nbi (.fz t n es c) then some [] else none) = _; rw [h]; rfl
  | d + 1 => by show (bif nbi (.fz t n es c) then some [] else none) = _; rw [h]; rfl
theorem kcl_cy {H : Heap} (code : List UInt8) (d : Nat) : kcl d H (fzl true 1 cy code) = some [] := by
  cases code with
  | nil => exact kcl_fz rfl d
  | cons b l => exact kcl_fz (nbi_cy true (b :: l)) d
def plv : GV → Bool
  | .int _ _ => true
  | .bool _ => true
  | .str _ => true
  | _ => false
theorem kcl_plv {H : Heap} {g : GV} (h : plv g = true) (d : Nat) : kcl d H g = some [] := by
  cases g with
  | int => cases d <;> rfl
  | bool => cases d <;> rfl
  | str => cases d <;> rfl
  | _ => cases h
theorem kcll_plv {H : Heap} {d : Nat} : ∀ {xs : List GV}, xs.all plv = true → kcll (kcl d H) xs = some []
  | [], _ => rfl
  | g :: xs, h => by
    rw [List.all_cons, Bool.and_eq_true] at h
    unfold kcll
    rw [kcl_plv h.1, kcll_plv h.2]; rfl
theorem Cur.cl {p : Nat} {code : List UInt8} {H : Heap} (h : Cur p code H) (o t d : Nat) : kcl (d + 2) H (.ptr p o t) = some [p] := by
  obtain ⟨i, k, h1, _⟩ := h
  show (match H[p]? with | some cs => (kcll (kcl (d + 1) H) cs).bind fun r => some (p :: r) | none => some [p]) = _
  rw [h1]
  simp only
  unfold kcll
  rw [kcl_cy, kcll_plv rfl]; rfl
theorem Cur.flat {p : Nat} {code : List UInt8} {H : Heap} (h : Cur p code H) {o t : Nat} {xs : List GV} (hx : xs.all plv = true) : kflat H (.ptr p o t :: xs) = true ∧ kreach H (.ptr p o t :: xs) = [p] := by
  have e : kcll (kcl 9 H) (.ptr p o t :: xs) = some [p] := by
    unfold kcll
    rw [h.cl o t 7, kcll_plv hx]; rfl
  exact ⟨by unfold kflat; rw [e]; rfl, by unfold kreach; rw [e]; rfl⟩

theorem kbin_and255 (a : Int) : ∃ y : Int, kbin .and (.int .i64 a) (.int .i64 255) = some (.int .i64 y) ∧ 0 ≤ y ∧ y ≤ 255 := by
  have h : (BitVec.ofInt 64 a &&& BitVec.ofInt 64 255).toNat ≤ 255 := by
    rw [BitVec.toNat_and]
    exact Nat.le_trans Nat.and_le_right (by decide)
  refine ⟨((BitVec.ofInt 64 a &&& BitVec.ofInt 64 255).toNat : Int), ?_, by omega, by omega⟩
  show some (GV.int .i64 (IntKind.i64.wrap _)) = _
  rw [show IntKind.bits .i64 = 64 from rfl, wrap_id (by omega) (by omega)]
theorem kbin_ex (op : BinOp) (h : op = .add ∨ op = .sub ∨ op = .mul ∨ op = .and ∨ op = .xor) (a b : Int) : ∃ y : Int, kbin op (.int .i64 a) (.int .i64 b) = some (.int .i64 y) := by
  rcases h with rfl | rfl | rfl | rfl | rfl <;> exact ⟨_, rfl⟩
theorem kshr33 (a : Int) : ∃ y : Int, kbin .shr (.int .i64 a) (.int .u64 33) = some (.int .i64 y) := ⟨_, rfl⟩
theorem kshr45 (a : Int) : ∃ y : Int, kbin .shr (.int .i64 a) (.int .u64 45) = some (.int .i64 y) := ⟨_, rfl⟩
theorem kia_cy {code : List UInt8} {i : Int} (h : 0 ≤ i) (h' : i < code.length) : kia 1 (fzl true 1 cy code) (.int .i64 i) = some (elp true cy code i.toNat) := by
  rw [kia_fzl (es := 1) (fun _ => rfl), if_pos ⟨h, h'⟩]
theorem kload1_cy {H : Heap} {code : List UInt8} {j : Nat} (h : j < code.length) : kload1 H (elp true cy code j) = some (.int .u8 (code[j].toNat : Int)) := by
  unfold kload1 elp kread
  rw [List.drop_eq_getElem_cons h, List.flatMap_cons]
  show (Option.bind (if 1 ≤ (_ :: _ : List GV).length then some ((GV.int .u8 (code[j].toNat : Int) :: List.flatMap cy _).take 1) else none) one) = _
  rw [if_pos (by simp)]
  rfl

theorem spec_l1New_spec (code : List UInt8) (H : Heap) (hl : code.length ≤ 1048576) : ∃ H', HH fn.spec_l1New [fzl true 1 cy code] H = some (.ptr H.length 0 3, H') ∧ Cur H.length code H' ∧ Fr [] H H' := by
  have kl : klen (fzl true 1 cy code) = some (.int .i64 (code.length : Nat)) := klen_fzl
  obtain ⟨h0, e0⟩ := kbin_ex .add (by simp) 110017 (code.length : Nat)
  have key := loop_inv (T := Int) (Inv := fun _ _ => True) (n := code.length) (f := fun r j x => S.spec_l1New.l6 (code.length + 1) (fun x v0 v2 v3 h => kb 0 x fun x => kx x (S.spec_l1New.n3 (code.length + 1) (fun x v2 h => kend x (finH v2 h)) v0 v3 h) (kend x (finH v2 h))) r (fzl true 1 cy code) .nilp (.int .i64 x) (.int .i64 (j : Nat)) H) (A := fun x => some (GV.ptr H.length 0 3, H ++ [[fzl true 1 cy code, .int .i64 0, .int .i64 x]])) (m := code.length + 1)
    (fun j r x hj _ => by
      have h1 : (j : Int) < code.length := by omega
      have ki := kia_cy (code := code) (i := (j : Nat)) (by omega) h1
      have ld := kload1_cy (H := H) (code := code) (j := j) hj
      rw [show ((j : Nat) : Int).toNat = j by omega] at ki
      have w := wrap_succ (n := j) (by simp only [maxLen]; omega)
      obtain ⟨x1, e1⟩ := kbin_ex .mul (by simp) x 137
      obtain ⟨x2, e2⟩ := kbin_ex .add (by simp) x1 (code[j].toNat : Int)
      obtain ⟨x3, e3⟩ := kbin_ex .add (by simp) x2 11
      obtain ⟨x4, e4⟩ := kbin_ex .and (by simp) x3 1073741823
      refine ⟨x4, ?_, trivial⟩
      have cv : kconvI .i64 (.int .u8 (code[j].toNat : Int)) = some (.int .i64 (code[j].toNat : Int)) := by rw [kconvI_int, wrap8_64]
      have lt : kbin .lss (.int .i64 (j : Nat)) (.int .i64 (code.length : Nat)) = some (.bool true) := by rw [kbin_lss, decide_eq_true h1]
      have ad : kbin .add (.int .i64 (j : Nat)) (.int .i64 1) = some (.int .i64 ((j + 1 : Nat) : Int)) := by rw [kbin_add, w]; rfl
      generalize fzl true 1 cy code = C at *
      generalize (code[j].toNat : Int) = B at *
      generalize GV.int .i64 ((j + 1 : Nat) : Int) = J' at *
      generalize GV.int .i64 (j : Nat) = J at *
      simp [S.spec_l1New.l6, kl, lt, ki, ld, cv, e1, e2, e3, e4, ad, -kbin_add, -kbin_mul])
    (fun r x _ => by
      have lt : kbin .lss (.int .i64 (code.length : Nat)) (.int .i64 (code.length : Nat)) = some (.bool false) := by rw [kbin_lss, decide_eq_false (by omega)]
      have gf : gfill (fun i => ([(0, 1), (1, 1), (2, 1)] : List (Nat × Nat))[i]?) [.nils, (.int .i64 0), (.int .i64 0)] [(0, fzl true 1 cy code), (2, .int .i64 x)] = some [fzl true 1 cy code, .int .i64 0, .int .i64 x] := by
        simp [gfill]
      generalize fzl true 1 cy code = C at *
      generalize GV.int .i64 (code.length : Nat) = L at *
      simp [S.spec_l1New.l6, kl, lt, gf, finH]) (s := h0) trivial (by omega)
  obtain ⟨x, k1, _⟩ := key
  refine ⟨H ++ [[fzl true 1 cy code, .int .i64 0, .int .i64 x]], ?_, ⟨0, x, by simp, by omega, by omega⟩, Fr.app⟩
  apply S.spec_l1New.gives (k := code.length + 1)
  refine Eq.trans ?_ k1
  generalize fzl true 1 cy code = C at *
  simp [S.spec_l1New.run, kl, e0, -kbin_add]

theorem cur_ld {H : Heap} {p : Nat} {a b c : GV} (h : H[p]? = some [a, b, c]) : kload1 H (.ptr p 0 3) = some a ∧ kload1 H (.ptr p 1 3) = some b ∧ kload1 H (.ptr p 2 3) = some c :=
  ⟨kload1_at h rfl, kload1_at h rfl, kload1_at h rfl⟩
theorem cur_st {H : Heap} {p : Nat} {a b c x : GV} (h : H[p]? = some [a, b, c]) (hx : x.cells = [x]) (hc : x.isCell = true) : kstore 1 H (.ptr p 1 3) x = some (H.set p [a, x, c]) ∧ kstore 1 H (.ptr p 2 3) x = some (H.set p [a, b, x]) :=
  ⟨kstore_at h rfl (by omega) hx hc, kstore_at h rfl (by omega) hx hc⟩
theorem set_get {H : Heap} {p : Nat} {c d : List GV} (h : H[p]? = some c) : (H.set p d)[p]? = some d := List.getElem?_set_self (List.getElem?_eq_some_iff.1 h).1

theorem spec_l1Byte_spec {p : Nat} {code : List UInt8} {H : Heap} (hl : code.length ≤ 1048576) (hc : Cur p code H) : ∃ (x : Int) (H' : Heap), HH fn.spec_l1Byte [.ptr p 0 3] H = some (.int .i64 x, H') ∧ 0 ≤ x ∧ x ≤ 255 ∧ Dr p code H H' := by
  obtain ⟨i, h, hH, hi, hi'⟩ := hc
  have kl : klen (fzl true 1 cy code) = some (.int .i64 (code.length : Nat)) := klen_fzl
  obtain ⟨h1, e1⟩ := kbin_ex .mul (by simp) h 6364136223846793005
  obtain ⟨h2, e2⟩ := kbin_ex .add (by simp) h1 1442695040888963407
  obtain ⟨y1, e3⟩ := kshr33 h2
  obtain ⟨y2, e4⟩ := kshr45 h2
  obtain ⟨y3, e5⟩ := kbin_ex .xor (by simp) y1 y2
  obtain ⟨y4, e6, b1, b2⟩ := kbin_and255 y3
  obtain ⟨l0, l1, l2⟩ := cur_ld hH
  obtain ⟨_, s2⟩ := cur_st hH (x := .int .i64 h2) rfl rfl
  have hH1 := set_get (d := [fzl true 1 cy code, .int .i64 i, .int .i64 h2]) hH
  have f1 : Fr [p] H (H.set p [fzl true 1 cy code, .int .i64 i, .int .i64 h2]) := Fr.set (by simp)
  obtain ⟨H1, hHe⟩ : ∃ H1, H.set p [fzl true 1 cy code, .int .i64 i, .int .i64 h2] = H1 := ⟨_, rfl⟩
  rw [hHe] at hH1 f1 s2
  obtain ⟨m0, m1, m2⟩ := cur_ld hH1
  by_cases hlt : i < code.length
  · have lt : kbin .lss (.int .i64 i) (.int .i64 (code.length : Nat)) = some (.bool true) := by rw [kbin_lss, decide_eq_true hlt]
    have ki := kia_cy (code := code) hi hlt
    have hj : i.toNat < code.length := by omega
    have ld := kload1_cy (H := H1) (code := code) hj
    have cv : kconvI .i64 (.int .u8 (code[i.toNat].toNat : Int)) = some (.int .i64 (code[i.toNat].toNat : Int)) := by rw [kconvI_int, wrap8_64]
    obtain ⟨y5, e7⟩ := kbin_ex .add (by simp) y4 (code[i.toNat].toNat : Int)
    obtain ⟨y6, e8, b3, b4⟩ := kbin_and255 y5
    have ad : kbin .add (.int .i64 i) (.int .i64 1) = some (.int .i64 (i + 1)) := by rw [kbin_add, wrap_id (by omega) (by omega)]
    obtain ⟨t1, _⟩ := cur_st hH1 (x := .int .i64 (i + 1)) rfl rfl
    have hH2 := set_get (d := [fzl true 1 cy code, .int .i64 (i + 1), .int .i64 h2]) hH1
    refine ⟨y6, H1.set p [fzl true 1 cy code, .int .i64 (i + 1), .int .i64 h2], ?_, b3, b4, ⟨i + 1, h2, hH2, by omega, by omega⟩, f1.trans (Fr.set (by simp))⟩
    apply S.spec_l1Byte.gives (k := 0)
    generalize H1.set p [fzl true 1 cy code, .int .i64 (i + 1), .int .i64 h2] = H2 at *
    generalize (code[i.toNat].toNat : Int) = B at *
    generalize fzl true 1 cy code = C at *
    generalize GV.int .i64 (i + 1) = I' at *
    generalize GV.int .i64 i = I at *
    generalize GV.int .i64 (code.length : Nat) = L at *
    generalize GV.int .i64 h2 = X2 at *
    generalize GV.int .i64 h1 = X1 at *
    generalize GV.int .i64 h = X0 at *
    clear hH hH1 hH2 hHe
    simp [S.spec_l1Byte.run, kl, l0, l1, l2, m0, m1, m2, s2, t1, lt, ki, ld, cv, e1, e2, e3, e4, e5, e6, e7, e8, ad, finH, -kload1_ptr, -kstore_ptr, -kbin_add, -kbin_mul]
  · have lt : kbin .lss (.int .i64 i) (.int .i64 (code.length : Nat)) = some (.bool false) := by rw [kbin_lss, decide_eq_false hlt]
    refine ⟨y4, H1, ?_, b1, b2, ⟨i, h2, hH1, hi, hi'⟩, f1⟩
    apply S.spec_l1Byte.gives (k := 0)
    generalize fzl true 1 cy code = C at *
    generalize GV.int .i64 i = I at *
    generalize GV.int .i64 (code.length : Nat) = L at *
    generalize GV.int .i64 h2 = X2 at *
    generalize GV.int .i64 h1 = X1 at *
    generalize GV.int .i64 h = X0 at *
    clear hH hH1 hHe
    simp [S.spec_l1Byte.run, kl, l0, l1, l2, m0, m1, m2, s2, lt, e1, e2, e3, e4, e5, e6, finH, -kload1_ptr, -kstore_ptr, -kbin_add, -kbin_mul]

theorem spec_l1Below_spec {p : Nat} {code : List UInt8} {H : Heap} (hl : code.length ≤ 1048576) (hc : Cur p code H) (n : Int) : ∃ (x : Int) (H' : Heap), HH fn.spec_l1Below [.ptr p 0 3, .int .i64 n] H = some (.int .i64 x, H') ∧ 0 ≤ x ∧ (n ≤ 0 → x = 0) ∧ (0 < n → x < n) ∧ Dr p code H H' := by
  by_cases h1 : n ≤ 0
  · refine ⟨0, H, ?_, by omega, fun _ => rfl, fun h => by omega, Dr.refl hc⟩
    apply S.spec_l1Below.gives (k := 0)
    simp [S.spec_l1Below.run, h1, finH]
  by_cases h2 : n ≤ 256
  · obtain ⟨x, H1, e1, b1, b2, d1⟩ := spec_l1Byte_spec hl hc
    have rm : kbin .rem (.int .i64 x) (.int .i64 n) = some (.int .i64 (x % n)) := by rw [kbin_rem (by omega), Int.tmod_eq_emod_of_nonneg b1]
    refine ⟨x % n, H1, ?_, Int.emod_nonneg _ (by omega), fun h => by omega, fun h => Int.emod_lt_of_pos _ h, d1⟩
    apply S.spec_l1Below.gives (k := 0)
    simp [S.spec_l1Below.run, h1, h2, e1, rm, finH]
  · obtain ⟨x, H1, e1, b1, b2, d1⟩ := spec_l1Byte_spec hl hc
    obtain ⟨y, H2, e2, b3, b4, d2⟩ := spec_l1Byte_spec hl d1.1
    obtain ⟨z, H3, e3, b5, b6, d3⟩ := spec_l1Byte_spec hl d2.1
    obtain ⟨w, H4, e4, b7, b8, d4⟩ := spec_l1Byte_spec hl d3.1
    have m1 : kbin .mul (.int .i64 x) (.int .i64 16777216) = some (.int .i64 (x * 16777216)) := by rw [kbin_mul, wrap_id (by omega) (by omega)]
    have m2 : kbin .mul (.int .i64 y) (.int .i64 65536) = some (.int .i64 (y * 65536)) := by rw [kbin_mul, wrap_id (by omega) (by omega)]
    have m3 : kbin .mul (.int .i64 z) (.int .i64 256) = some (.int .i64 (z * 256)) := by rw [kbin_mul, wrap_id (by omega) (by omega)]
    have a1 : kbin .add (.int .i64 (x * 16777216)) (.int .i64 (y * 65536)) = some (.int .i64 (x * 16777216 + y * 65536)) := by rw [kbin_add, wrap_id (by omega) (by omega)]
    have a2 : kbin .add (.int .i64 (x * 16777216 + y * 65536)) (.int .i64 (z * 256)) = some (.int .i64 (x * 16777216 + y * 65536 + z * 256)) := by rw [kbin_add, wrap_id (by omega) (by omega)]
    have a3 : kbin .add (.int .i64 (x * 16777216 + y * 65536 + z * 256)) (.int .i64 w) = some (.int .i64 (x * 16777216 + y * 65536 + z * 256 + w)) := by rw [kbin_add, wrap_id (by omega) (by omega)]
    have rm : kbin .rem (.int .i64 (x * 16777216 + y * 65536 + z * 256 + w)) (.int .i64 n) = some (.int .i64 ((x * 16777216 + y * 65536 + z * 256 + w) % n)) := by rw [kbin_rem (by omega), Int.tmod_eq_emod_of_nonneg (by omega)]
    refine ⟨(x * 16777216 + y * 65536 + z * 256 + w) % n, H4, ?_, Int.emod_nonneg _ (by omega), fun h => by omega, fun h => Int.emod_lt_of_pos _ h, ((d1.trans d2).trans d3).trans d4⟩
    apply S.spec_l1Below.gives (k := 0)
    generalize GV.int .i64 ((x * 16777216 + y * 65536 + z * 256 + w) % n) = R at *
    generalize GV.int .i64 (x * 16777216 + y * 65536 + z * 256 + w) = Q4 at *
    generalize GV.int .i64 (x * 16777216 + y * 65536 + z * 256) = Q3 at *
    generalize GV.int .i64 (x * 16777216 + y * 65536) = Q2 at *
    generalize GV.int .i64 (x * 16777216) = Q1 at *
    generalize GV.int .i64 (y * 65536) = Q5 at *
    generalize GV.int .i64 (z * 256) = Q6 at *
    generalize GV.int .i64 x = X at *
    generalize GV.int .i64 y = Y at *
    generalize GV.int .i64 z = Z at *
    generalize GV.int .i64 w = W at *
    simp [S.spec_l1Below.run, h1, h2, e1, e2, e3, e4, m1, m2, m3, a1, a2, a3, rm, finH, -kbin_add, -kbin_mul]

theorem spec_l1Once_spec {p : Nat} {code : List UInt8} {H : Heap} (hl : code.length ≤ 1048576) (hc : Cur p code H) (n : Int) : ∃ (b : Bool) (H' : Heap), HH fn.spec_l1Once [.ptr p 0 3, .int .i64 n] H = some (.bool b, H') ∧ Dr p code H H' := by
  obtain ⟨x, H1, e1, _, _, _, d1⟩ := spec_l1Below_spec hl hc n
  refine ⟨decide (x = 0), H1, ?_, d1⟩
  apply S.spec_l1Once.gives (k := 0)
  simp [S.spec_l1Once.run, e1, finH]

theorem spec_l1From_spec {p : Nat} {code : List UInt8} {H : Heap} (hl : code.length ≤ 1048576) (hc : Cur p code H) (a b : Int) (ha : -1000000 ≤ a) (hb : b ≤ 1000000) (hab : a ≤ b) : ∃ (x : Int) (H' : Heap), HH fn.spec_l1From [.ptr p 0 3, .int .i64 a, .int .i64 b] H = some (.int .i64 x, H') ∧ a ≤ x ∧ x ≤ b ∧ Dr p code H H' := by
  obtain ⟨x, H1, e1, b1, _, b2, d1⟩ := spec_l1Below_spec hl hc (b - a + 1)
  have b3 := b2 (by omega)
  have w1 : kbin .sub (.int .i64 b) (.int .i64 a) = some (.int .i64 (b - a)) := by rw [kbin_sub, wrap_id (by omega) (by omega)]
  have w2 : kbin .add (.int .i64 (b - a)) (.int .i64 1) = some (.int .i64 (b - a + 1)) := by rw [kbin_add, wrap_id (by omega) (by omega)]
  have w3 : kbin .add (.int .i64 a) (.int .i64 x) = some (.int .i64 (a + x)) := by rw [kbin_add, wrap_id (by omega) (by omega)]
  refine ⟨a + x, H1, ?_, by omega, by omega, d1⟩
  apply S.spec_l1From.gives (k := 0)
  simp [S.spec_l1From.run, w1, w2, w3, e1, finH, -kbin_add, -kbin_sub]
theorem tab {P : GV → Prop} {cells : List GV} (hP : ∀ g ∈ cells, P g) {H : Heap} {b n : Nat} (hh : H[b]? = some cells) (hn : cells.length = n) {x : Int} (h0 : 0 ≤ x) (h1 : x < n) : ∃ q g, kia 1 (.sl b 0 n n 1) (.int .i64 x) = some q ∧ kload1 H q = some g ∧ P g := by
  have hx : x.toNat < cells.length := by omega
  refine ⟨.ptr b x.toNat n, cells[x.toNat], ?_, ?_, hP _ (List.getElem_mem hx)⟩
  · rw [kia_sl, if_pos ⟨rfl, h0, h1⟩]; simp
  · rw [kload1_at hh hn, List.getElem?_eq_getElem hx]
theorem draw_tab {p : Nat} {code : List UInt8} {H : Heap} (hl : code.length ≤ 1048576) (hc : Cur p code H) {P : GV → Prop} {T : List GV} (hP : ∀ g ∈ T, P g) {n : Nat} (hn : T.length = n) (h0 : 0 < n) {m : Int} (hm : m = (n : Int)) :
    ∃ (x : Int) (H' : Heap) (q g : GV), HH fn.spec_l1Below [.ptr p 0 3, .int .i64 m] (H ++ [T]) = some (.int .i64 x, H') ∧ kia 1 (.sl H.length 0 n n 1) (.int .i64 x) = some q ∧ kload1 H' q = some g ∧ P g ∧ Dr p code H H' := by
  subst hm
  obtain ⟨x, H2, e2, x0, _, x1, d2⟩ := spec_l1Below_spec hl (hc.app (T := [T])) n
  have hlt := hc.lt
  have ht : H2[H.length]? = some T := d2.get (by omega) (by simp)
  obtain ⟨q, g, k1, k2, k3⟩ := tab hP ht hn x0 (x1 (by omega))
  exact ⟨x, H2, q, g, e2, k1, k2, k3, (Dr.app hc).trans d2⟩
end Go.Proofs.Ytlbnioapepelnaa.G

namespace Go.Proofs.Ytlbnioapepelnaa.G
open Go.RowKit
abbrev Rel (α : Type) := Heap → List GV → α → List Nat → Prop
inductive All3 {α : Type} (E : List GV → α → List Nat → Prop) : List (List GV) → List α → List (List Nat) → Prop
  | nil : All3 E [] [] []
  | cons {c : List GV} {x : α} {r : List Nat} {cs : List (List GV)} {xs : List α} {rs : List (List Nat)} : E c x r → All3 E cs xs rs → All3 E (c :: cs) (x :: xs) (r :: rs)
def RFl {α : Type} (mk : α → List GV) : Rel α := fun h c x R => c = mk x ∧ R = []
def RSl {α : Type} (es : Nat) (E : Rel α) : Rel (List α) := fun h c xs R =>
  (xs = [] ∧ R = [] ∧ (c = [.emp] ∨ c = [.nils])) ∨ ∃ b css Rs, c = [.sl b 0 xs.length xs.length es] ∧ h[b]? = some css.flatten ∧ All3 (E h) css xs Rs ∧ R = b :: Rs.flatten
def RSeq {α β : Type} (E : Rel α) (F : Rel β) : Rel (α × β) := fun h c x R => ∃ c1 c2 R1 R2, c = c1 ++ c2 ∧ R = R1 ++ R2 ∧ E h c1 x.1 R1 ∧ F h c2 x.2 R2

structure Good {α : Type} (es d : Nat) (mk : α → List GV) (E : Rel α) : Prop where
  len : ∀ {h c x R}, E h c x R → c.length = es
  mkl : ∀ x, (mk x).length = es
  brw : ∀ {h c x R}, E h c x R → ∀ D, ∃ ys, c.mapM (bor (D + d) h) = some ys ∧ ys.map (·.1) = mk x ∧ (ys.map (·.2)).flatten = R
  frame : ∀ {h c x R h'}, E h c x R → (∀ i ∈ R, h'[i]? = h[i]?) → E h' c x R
  mem : ∀ {h c x R}, E h c x R → ∀ i ∈ R, i < h.length
  own : ∀ {h c x R}, E h c x R → ∀ D b, ∃ c' vis bl, ownL (own (D + d) h) b c = some (c', vis, bl) ∧ vis.map (·.1) = R ∧ ∀ H T, H.length = b → E (H ++ bl ++ T) c' x (List.range' b bl.length)
  cell : ∀ {h c x R}, E h c x R → c.all GV.isCell = true

theorem RFl.good {α : Type} {es : Nat} {mk : α → List GV} (hl : ∀ x, (mk x).length = es) (hp : ∀ x, (mk x).all Pl = true) : Good es 1 mk (RFl mk) where
  len := by rintro h c x R ⟨rfl, rfl⟩; exact hl x
  mkl := hl
  brw := by
    rintro h c x R ⟨rfl, rfl⟩ D
    have : ∀ l : List GV, l.all Pl = true → l.mapM (bor (D + 1) h) = some (l.map fun g => (g, [])) := by
      intro l
      induction l with
      | nil => intro _; rfl
      | cons g l ih =>
        intro hl
        rw [List.all_cons, Bool.and_eq_true] at hl
        rw [List.mapM_cons, ih hl.2]
        cases g <;> first | rfl | cases hl.1
    refine ⟨_, this _ (hp x), ?_, ?_⟩
    · rw [List.map_map]; exact List.map_id _
    · rw [List.map_map]
      generalize mk x = l
      induction l with
      | nil => rfl
      | cons g l ih => rw [List.map_cons, List.flatten_cons, ih]; rfl
  frame := fun h _ => h
  mem := by rintro h c x R ⟨rfl, rfl⟩ i hi; cases hi
  own := by
    rintro h c x R ⟨rfl, rfl⟩ D b
    exact ⟨mk x, [], [], ownL_pl (hp x), rfl, fun H T _ => ⟨rfl, rfl⟩⟩
  cell := by
    rintro h c x R ⟨rfl, rfl⟩
    have := hp x
    rw [List.all_eq_true] at this ⊢
    intro g hg
    have := this g hg
    cases g <;> first | rfl | cases this

theorem mapM_app {f : GV → Option (GV × List Nat)} {l1 l2 : List GV} {y1 y2 : List (GV × List Nat)} (h1 : l1.mapM f = some y1) (h2 : l2.mapM f = some y2) : (l1 ++ l2).mapM f = some (y1 ++ y2) := mapM_append' h1 h2
theorem ownL_app {f : Nat → GV → Option (GV × Vis × List (List GV))} : ∀ {l1 l2 : List GV} {b : Nat} {c1 c2 : List GV} {v1 v2 : Vis} {b1 b2 : List (List GV)}, ownL f b l1 = some (c1, v1, b1) → ownL f (b + b1.length) l2 = some (c2, v2, b2) → ownL f b (l1 ++ l2) = some (c1 ++ c2, v1 ++ v2, b1 ++ b2)
  | [], l2, b, c1, c2, v1, v2, b1, b2, h1, h2 => by
    obtain ⟨⟩ := h1
    exact h2
  | g :: l1, l2, b, c1, c2, v1, v2, b1, b2, h1, h2 => by
    unfold ownL at h1
    obtain ⟨r, h3, h4⟩ := obsi.1 h1
    obtain ⟨q, h5, h6⟩ := obsi.1 h4
    obtain ⟨⟩ := h6
    rw [List.cons_append]
    unfold ownL
    rw [h3]
    simp only [Option.bind_some]
    rw [ownL_app (c1 := q.1) (v1 := q.2.1) (b1 := q.2.2) h5 (by rw [List.length_append, ← Nat.add_assoc] at h2; exact h2)]
    simp

theorem RSeq.good {α β : Type} {es es' d : Nat} {mk : α → List GV} {mk' : β → List GV} {E : Rel α} {F : Rel β} (hE : Good es d mk E) (hF : Good es' d mk' F) : Good (es + es') d (fun x : α × β => mk x.1 ++ mk' x.2) (RSeq E F) where
  len := by rintro h c x R ⟨c1, c2, R1, R2, rfl, rfl, h1, h2⟩; rw [List.length_append, hE.len h1, hF.len h2]
  mkl := fun x => by rw [List.length_append, hE.mkl, hF.mkl]
  brw := by
    rintro h c x R ⟨c1, c2, R1, R2, rfl, rfl, h1, h2⟩ D
    obtain ⟨y1, a1, a2, a3⟩ := hE.brw h1 D
    obtain ⟨y2, b1, b2, b3⟩ := hF.brw h2 D
    exact ⟨y1 ++ y2, mapM_app a1 b1, by rw [List.map_append, a2, b2], by rw [List.map_append, List.flatten_append, a3, b3]⟩
  frame := by
    rintro h c x R h' ⟨c1, c2, R1, R2, rfl, rfl, h1, h2⟩ hf
    exact ⟨c1, c2, R1, R2, rfl, rfl, hE.frame h1 fun i hi => hf i (List.mem_append_left _ hi), hF.frame h2 fun i hi => hf i (List.mem_append_right _ hi)⟩
  mem := by
    rintro h c x R ⟨c1, c2, R1, R2, rfl, rfl, h1, h2⟩ i hi
    rcases List.mem_append.1 hi with hi | hi
    · exact hE.mem h1 i hi
    · exact hF.mem h2 i hi
  own := by
    rintro h c x R ⟨c1, c2, R1, R2, rfl, rfl, h1, h2⟩ D b
    obtain ⟨c1', v1, l1, a1, a2, a3⟩ := hE.own h1 D b
    obtain ⟨c2', v2, l2, b1, b2, b3⟩ := hF.own h2 D (b + l1.length)
    refine ⟨c1' ++ c2', v1 ++ v2, l1 ++ l2, ownL_app a1 b1, by rw [List.map_append, a2, b2], fun H T hH => ?_⟩
    refine ⟨c1', c2', List.range' b l1.length, List.range' (b + l1.length) l2.length, rfl, by rw [List.length_append, List.range'_append_1], ?_, ?_⟩
    · have := a3 H (l2 ++ T) hH
      simpa only [List.append_assoc] using this
    · have := b3 (H ++ l1) T (by rw [List.length_append, hH])
      simpa only [List.append_assoc] using this
  cell := by
    rintro h c x R ⟨c1, c2, R1, R2, rfl, rfl, h1, h2⟩
    rw [List.all_append, hE.cell h1, hF.cell h2]; rfl

theorem All3.len {α : Type} {E : List GV → α → List Nat → Prop} {css : List (List GV)} {xs : List α} {Rs : List (List Nat)} (h : All3 E css xs Rs) : css.length = xs.length ∧ Rs.length = xs.length := by
  induction h with
  | nil => exact ⟨rfl, rfl⟩
  | cons _ _ ih => exact ⟨by simp [ih.1], by simp [ih.2]⟩
theorem All3.flen {α : Type} {E : List GV → α → List Nat → Prop} {es : Nat} (hl : ∀ {c x R}, E c x R → c.length = es) {css : List (List GV)} {xs : List α} {Rs : List (List Nat)} (h : All3 E css xs Rs) : css.flatten.length = xs.length * es ∧ ∀ c ∈ css, c.length = es := by
  induction h with
  | nil => exact ⟨by simp, fun c h => by cases h⟩
  | cons a _ ih =>
    refine ⟨?_, fun c hc => ?_⟩
    · rw [List.flatten_cons, List.length_append, ih.1, hl a, List.length_cons, Nat.add_mul]; omega
    · rcases List.mem_cons.1 hc with rfl | hc
      · exact hl a
      · exact ih.2 c hc
theorem All3.frame {α : Type} {E : Rel α} {h h' : Heap} (hf : ∀ {c x R}, E h c x R → (∀ i ∈ R, h'[i]? = h[i]?) → E h' c x R) {css : List (List GV)} {xs : List α} {Rs : List (List Nat)} (ha : All3 (E h) css xs Rs) (hi : ∀ i ∈ Rs.flatten, h'[i]? = h[i]?) : All3 (E h') css xs Rs := by
  induction ha with
  | nil => exact .nil
  | cons a _ ih =>
    rw [List.flatten_cons] at hi
    exact .cons (hf a fun i h => hi i (List.mem_append_left _ h)) (ih fun i h => hi i (List.mem_append_right _ h))
theorem All3.mem {α : Type} {E : List GV → α → List Nat → Prop} {n : Nat} (hm : ∀ {c x R}, E c x R → ∀ i ∈ R, i < n) {css : List (List GV)} {xs : List α} {Rs : List (List Nat)} (ha : All3 E css xs Rs) : ∀ i ∈ Rs.flatten, i < n := by
  induction ha with
  | nil => intro i hi; cases hi
  | cons a _ ih =>
    intro i hi
    rw [List.flatten_cons] at hi
    rcases List.mem_append.1 hi with hi | hi
    · exact hm a i hi
    · exact ih i hi
theorem All3.brw {α : Type} {es d : Nat} {mk : α → List GV} {E : Rel α} (hE : Good es d mk E) {h : Heap} (D : Nat) {css : List (List GV)} {xs : List α} {Rs : List (List Nat)} (ha : All3 (E h) css xs Rs) : ∃ ys, css.flatten.mapM (bor (D + d) h) = some ys ∧ ys.map (·.1) = xs.flatMap mk ∧ (ys.map (·.2)).flatten = Rs.flatten := by
  induction ha with
  | nil => exact ⟨[], rfl, rfl, rfl⟩
  | cons a _ ih =>
    obtain ⟨y1, a1, a2, a3⟩ := hE.brw a D
    obtain ⟨y2, b1, b2, b3⟩ := ih
    exact ⟨y1 ++ y2, mapM_app a1 b1, by rw [List.map_append, a2, b2]; rfl, by rw [List.map_append, List.flatten_append, a3, b3]; rfl⟩
theorem All3.own {α : Type} {es d : Nat} {mk : α → List GV} {E : Rel α} (hE : Good es d mk E) {h : Heap} (D : Nat) {css : List (List GV)} {xs : List α} {Rs : List (List Nat)} (ha : All3 (E h) css xs Rs) : ∀ b, ∃ css' vis bl Rs', ownL (own (D + d) h) b css.flatten = some (css'.flatten, vis, bl) ∧ vis.map (·.1) = Rs.flatten ∧ Rs'.flatten = List.range' b bl.length ∧ ∀ H T, H.length = b → All3 (E (H ++ bl ++ T)) css' xs Rs' := by
  induction ha with
  | nil => exact fun b => ⟨[], [], [], [], rfl, rfl, rfl, fun H T _ => .nil⟩
  | cons a _ ih =>
    intro b
    obtain ⟨c', v1, l1, a1, a2, a3⟩ := hE.own a D b
    obtain ⟨css', v2, l2, Rs', b1, b2, b3, b4⟩ := ih (b + l1.length)
    refine ⟨c' :: css', v1 ++ v2, l1 ++ l2, List.range' b l1.length :: Rs', ?_, by rw [List.map_append, a2, b2]; rfl, by rw [List.flatten_cons, b3, List.length_append, List.range'_append_1], fun H T hH => .cons ?_ ?_⟩
    · rw [List.flatten_cons, List.flatten_cons]; exact ownL_app a1 b1
    · have := a3 H (l2 ++ T) hH
      simpa only [List.append_assoc] using this
    · have := b4 (H ++ l1) T (by rw [List.length_append, hH])
      simpa only [List.append_assoc] using this

theorem RSl.good {α : Type} {es d : Nat} {mk : α → List GV} {E : Rel α} (hE : Good es d mk E) : Good 1 (d + 1) (fun xs : List α => [fzl true es mk xs]) (RSl es E) where
  len := by
    rintro h c xs R (⟨_, _, hc⟩ | ⟨b, css, Rs, rfl, _⟩)
    · rcases hc with rfl | rfl <;> rfl
    · rfl
  mkl := fun _ => rfl
  brw := by
    rintro h c xs R (⟨rfl, rfl, hc⟩ | ⟨b, css, Rs, rfl, hb, ha, rfl⟩) D
    · rcases hc with rfl | rfl
      · exact ⟨[(mt, [])], rfl, rfl, rfl⟩
      · exact ⟨[(mt, [])], rfl, rfl, rfl⟩
    · obtain ⟨ys, a1, a2, a3⟩ := All3.brw hE D ha
      obtain ⟨fl, _⟩ := All3.flen (fun h => hE.len h) ha
      have e : bor (D + (d + 1)) h (.sl b 0 xs.length xs.length es) = some (fzl true es mk xs, b :: Rs.flatten) := by
        rw [← Nat.add_assoc]
        simp only [bor, Option.bind_eq_bind, cellsAt_if, hb, Nat.zero_add, fl, if_true, Option.bind_some, List.drop_zero]
        rw [List.take_of_length_le (by omega), a1]
        simp only [Option.bind_some, Nat.le_refl, if_true]
        cases xs with
        | nil =>
          cases ha
          cases ys with
          | nil => rfl
          | cons y ys => cases a1
        | cons x xs => simp only [List.length_cons, fzl, a2, a3]
      exact ⟨[(fzl true es mk xs, b :: Rs.flatten)], by rw [List.mapM_cons, e]; rfl, rfl, by simp⟩
  frame := by
    rintro h c xs R h' (hc | ⟨b, css, Rs, rfl, hb, ha, rfl⟩) hf
    · exact Or.inl hc
    · exact Or.inr ⟨b, css, Rs, rfl, (hf b (List.mem_cons_self ..)).trans hb, All3.frame (fun a b => hE.frame a b) ha (fun i hi => hf i (List.mem_cons_of_mem _ hi)), rfl⟩
  mem := by
    rintro h c xs R (⟨_, rfl, _⟩ | ⟨b, css, Rs, rfl, hb, ha, rfl⟩) i hi
    · cases hi
    · rcases List.mem_cons.1 hi with rfl | hi
      · exact (List.getElem?_eq_some_iff.1 hb).1
      · exact All3.mem (fun a => hE.mem a) ha i hi
  own := by
    rintro h c xs R (⟨rfl, rfl, hc⟩ | ⟨b0, css, Rs, rfl, hb, ha, rfl⟩) D b
    · refine ⟨c, [], [], ?_, rfl, fun H T _ => Or.inl ⟨rfl, rfl, hc⟩⟩
      rcases hc with rfl | rfl <;> rfl
    · obtain ⟨css', vis, bl, Rs', a1, a2, a3, a4⟩ := All3.own hE D ha (b + 1)
      obtain ⟨fl, _⟩ := All3.flen (fun h => hE.len h) ha
      have e : own (D + (d + 1)) h b (.sl b0 0 xs.length xs.length es) = some (.sl b 0 xs.length xs.length es, (b0, 0, 0 + xs.length * es) :: vis, css'.flatten :: bl) := by
        rw [← Nat.add_assoc]
        simp only [Go.Proofs.Ytlbnioapepelnaa.G.own, cellsAt_if, hb, Nat.zero_add, fl, if_true, Option.bind_some, List.drop_zero, Nat.le_refl]
        rw [List.take_of_length_le (by omega), a1]
        rfl
      refine ⟨[.sl b 0 xs.length xs.length es], (b0, 0, 0 + xs.length * es) :: vis, css'.flatten :: bl, ?_, ?_, fun H T hH => Or.inr ⟨b, css', Rs', rfl, ?_, ?_, ?_⟩⟩
      · unfold ownL
        rw [e]
        simp [ownL]
      · rw [List.map_cons, a2]
      · rw [List.append_assoc, List.getElem?_append_right (by omega), hH, Nat.sub_self]; rfl
      · have := a4 (H ++ [css'.flatten]) T (by rw [List.length_append, hH]; rfl)
        simpa only [List.append_assoc, List.cons_append, List.nil_append] using this
      · rw [a3, List.length_cons, List.range'_succ]
  cell := by
    rintro h c xs R (⟨_, _, hc⟩ | ⟨b, css, Rs, rfl, _⟩)
    · rcases hc with rfl | rfl <;> rfl
    · rfl

theorem nodupB_of : ∀ {l : List Nat}, l.Nodup → nodupB l = true
  | [], _ => rfl
  | a :: l, h => by
    rw [List.nodup_cons] at h
    unfold nodupB
    rw [Bool.and_eq_true]
    refine ⟨?_, nodupB_of h.2⟩
    rw [List.all_eq_true]
    intro b hb
    cases hh : Nat.beq a b with
    | false => rfl
    | true => exact absurd (Nat.eq_of_beq_eq_true hh ▸ hb) h.1
theorem Good.fin {α : Type} {d : Nat} {mk : α → List GV} {E : Rel α} (hE : Good 1 d mk E) (hd : d ≤ 9) {h : Heap} {v : GV} {x : α} {R : List Nat} (he : E h [v] x R) (nd : R.Nodup) (b : Nat) : ∃ v' bl, finO b v h = some (v', bl) ∧ ∀ H T, H.length = b → E (H ++ bl ++ T) [v'] x (List.range' b bl.length) := by
  obtain ⟨c', vis, bl, a1, a2, a3⟩ := hE.own he (9 - d) b
  rw [show 9 - d + d = 9 by omega] at a1
  unfold ownL at a1
  obtain ⟨r, b1, b2⟩ := obsi.1 a1
  obtain ⟨q, b3, b4⟩ := obsi.1 b2
  obtain ⟨⟩ := b3
  simp only [Option.some.injEq, Prod.mk.injEq, List.append_nil] at b4
  obtain ⟨rfl, rfl, rfl⟩ := b4
  refine ⟨r.1, r.2.2, ?_, a3⟩
  unfold finO ownOk
  simp only [b1, Option.bind_some, a2, nodupB_of nd, cond_true]
theorem Good.lend1 {α : Type} {d : Nat} {mk : α → List GV} {E : Rel α} (hE : Good 1 d mk E) (hd : d ≤ 9) {h : Heap} {v : GV} {x : α} {R : List Nat} (he : E h [v] x R) : ∃ g, bor 9 h v = some (g, R) ∧ mk x = [g] := by
  obtain ⟨ys, a1, a2, a3⟩ := hE.brw he (9 - d)
  rw [show 9 - d + d = 9 by omega] at a1
  rw [List.mapM_cons] at a1
  obtain ⟨y, b1, b2⟩ := obsi.1 a1
  simp only [List.mapM_nil, Option.pure_def, Option.bind_some, Option.bind_eq_bind, Option.some.injEq] at b2
  subst b2
  simp only [List.map_cons, List.map_nil, List.flatten_cons, List.flatten_nil, List.append_nil] at a2 a3
  exact ⟨y.1, by rw [b1, ← a3], a2.symm⟩
theorem RSl.len {α : Type} {es : Nat} {E : Rel α} {h : Heap} {v : GV} {xs : List α} {R : List Nat} (he : RSl es E h [v] xs R) : klen v = some (.int .i64 xs.length) := by
  rcases he with ⟨rfl, _, hc⟩ | ⟨b, css, Rs, hv, _⟩
  · rcases hc with hc | hc <;> (injection hc with hc; subst hc; rfl)
  · injection hv with hv; subst hv; rfl
theorem Good.mono {α : Type} {es d d' : Nat} {mk : α → List GV} {E : Rel α} (hE : Good es d mk E) (hd : d ≤ d') : Good es d' mk E where
  len := hE.len
  mkl := hE.mkl
  brw := fun h D => by
    have := hE.brw h (D + (d' - d))
    rwa [show D + (d' - d) + d = D + d' by omega] at this
  frame := hE.frame
  mem := hE.mem
  own := fun h D b => by
    have := hE.own h (D + (d' - d)) b
    rwa [show D + (d' - d) + d = D + d' by omega] at this
  cell := hE.cell
theorem Good.keep {α : Type} {es d : Nat} {mk : α → List GV} {E : Rel α} (hE : Good es d mk E) {h h' : Heap} {c : List GV} {x : α} {R R' : List Nat} (he : E h c x R) (hf : Fr R' h h') (hd : ∀ i ∈ R, i ∉ R') : E h' c x R :=
  hE.frame he fun i hi => hf.2 i (hE.mem he i hi) (hd i hi)
theorem Good.grow {α : Type} {es d : Nat} {mk : α → List GV} {E : Rel α} (hE : Good es d mk E) {h t : Heap} {c : List GV} {x : α} {R : List Nat} (he : E h c x R) : E (h ++ t) c x R :=
  hE.frame he fun i hi => List.getElem?_append_left (hE.mem he i hi)

def Bd (R : List Nat) (a b : Nat) : Prop := ∀ i ∈ R, a ≤ i ∧ i < b
theorem Bd.no {R : List Nat} {a b p : Nat} (h : Bd R a b) (hp : p < a ∨ b ≤ p) : p ∉ R := fun hi => by have := h p hi; omega
theorem Bd.apart {R R' : List Nat} {a b a' b' : Nat} (h : Bd R a b) (h' : Bd R' a' b') (hp : b ≤ a' ∨ b' ≤ a) : ∀ i ∈ R, i ∉ R' := fun i hi hi' => by have := h i hi; have := h' i hi'; omega
theorem no_nil {p : Nat} : p ∉ ([] : List Nat) := List.not_mem_nil
theorem bors_one {α : Type} {es d : Nat} {mk : α → List GV} {E : Rel α} (hE : Good es d mk E) (hd : d + 1 ≤ 9) {H : Heap} {v : GV} {x : List α} {R : List Nat} (he : RSl es E H [v] x R) {gs xs : List GV} (h : bors H gs = some xs) : bors H (v :: gs) = some (fzl true es mk x :: xs) := by
  obtain ⟨g, h1, h2⟩ := (RSl.good hE).lend1 hd he
  injection h2 with h2
  rw [bors_cons, h1, h, ← h2]; rfl
end Go.Proofs.Ytlbnioapepelnaa.G

namespace Go.Proofs.Ytlbnioapepelnaa.G
open Go.RowKit

theorem Good.finS {α : Type} {es d : Nat} {mk : α → List GV} {E : Rel α} (hE : Good es d mk E) (hd : d ≤ 8) {h : Heap} {c : List GV} {x : α} {R : List Nat} (he : E h c x R) (nd : R.Nodup) (b : Nat) : ∃ c' bl, finO b (.agg c) h = some (.agg c', bl) ∧ ∀ H T, H.length = b → E (H ++ bl ++ T) c' x (List.range' b bl.length) := by
  obtain ⟨c', vis, bl, a1, a2, a3⟩ := hE.own he (8 - d) b
  rw [show 8 - d + d = 8 by omega] at a1
  refine ⟨c', bl, ?_, a3⟩
  unfold finO ownOk
  have e : Go.Proofs.Ytlbnioapepelnaa.G.own 9 h b (.agg c) = some (.agg c', vis, bl) := by
    show (ownL (Go.Proofs.Ytlbnioapepelnaa.G.own 8 h) b c).bind _ = _
    rw [a1]; rfl
  simp only [e, Option.bind_some, a2, nodupB_of nd, cond_true]
theorem Good.lendS {α : Type} {es d : Nat} {mk : α → List GV} {E : Rel α} (hE : Good es d mk E) (hd : d ≤ 8) {h : Heap} {c : List GV} {x : α} {R : List Nat} (he : E h c x R) : bor 9 h (.agg c) = some (.agg (mk x), R) := by
  obtain ⟨ys, a1, a2, a3⟩ := hE.brw he (8 - d)
  rw [show 8 - d + d = 8 by omega] at a1
  show (c.mapM (bor 8 h)).bind _ = _
  rw [a1]
  simp [a2, a3]

theorem kadd1 {n : Nat} (h : n ≤ 9223372036854775806) : kbin .add (.int .i64 (n : Int)) (.int .i64 1) = some (.int .i64 ((n + 1 : Nat) : Int)) := by
  rw [kbin_add, wrap_id (by omega) (by omega)]; simp
theorem klt {j n : Nat} : kbin .lss (.int .i64 (j : Int)) (.int .i64 (n : Int)) = some (.bool (decide (j < n))) := by
  rw [kbin_lss]; simp
@[simp] theorem kfa_elf {α : Type} {t : Bool} {mk : α → List GV} {xs : List α} {j o off : Nat} : kfa off (elf t mk xs j o) = some (elf t mk xs j (o + off)) := by
  show some (GV.fp t ((((xs.drop j).flatMap mk).drop o).drop off)) = _
  rw [List.drop_drop]
  rfl
theorem cell_of {α : Type} {es : Nat} {E : Rel α} {h : Heap} {v : GV} {xs : List α} {R : List Nat} (he : RSl es E h [v] xs R) : v.cells = [v] ∧ v.isCell = true := by
  rcases he with ⟨_, _, hc⟩ | ⟨_, _, _, hc, _⟩
  · rcases hc with hc | hc <;> (injection hc with hc; subst hc; exact ⟨rfl, rfl⟩)
  · injection hc with hc; subst hc; exact ⟨rfl, rfl⟩
theorem All3.snoc {α : Type} {E : List GV → α → List Nat → Prop} {css : List (List GV)} {xs : List α} {Rs : List (List Nat)} (h : All3 E css xs Rs) {c : List GV} {x : α} {r : List Nat} (he : E c x r) : All3 E (css ++ [c]) (xs ++ [x]) (Rs ++ [r]) := by
  induction h with
  | nil => exact .cons he .nil
  | cons a _ ih => exact .cons a ih
theorem Fr.blk {R : List Nat} {H H' : Heap} (f : Fr R H H') {p : Nat} {c : List GV} (h : H[p]? = some c) (hn : p ∉ R) : H'[p]? = some c := (f.2 p (List.getElem?_eq_some_iff.1 h).1 hn).trans h
theorem kalloc_at {Q : Type} {z : List GV} {H : Heap} {K : GV → Heap → Option Q} : kalloc z H K = K (.ptr H.length 0 z.length) (H ++ [z]) := rfl
theorem kloadA_at {H : Heap} {p n : Nat} {c : List GV} (h : H[p]? = some c) (hl : c.length = n) : kloadA n H (.ptr p 0 n) = some (.agg c) := by
  rw [kloadA_ptr, cellsAt_if, h]
  simp [hl]
  rw [List.take_of_length_le (by omega)]
theorem kstoreA_at {H : Heap} {p n : Nat} {c c' : List GV} (h : H[p]? = some c) (hl : c.length = n) (hl' : c'.length = n) (hc : c'.all GV.isCell = true) : kstore n H (.ptr p 0 n) (.agg c') = some (H.set p c') := by
  rw [kstore_ptr, cells_agg, if_pos ⟨hl', hc⟩, cellsAt_if, h]
  simp only [Option.bind_some, hl, if_true]
  rw [if_pos (by omega)]
  simp only [splice, List.take_zero, List.nil_append, Nat.zero_add, hl']
  rw [List.drop_of_length_le (by omega), List.append_nil]
theorem var_at {H : Heap} {z c : List GV} {n : Nat} (hz : z.length = n) (hl : c.length = n) (hc : c.all GV.isCell = true) : kstore n (H ++ [z]) (.ptr H.length 0 n) (.agg c) = some (H ++ [c]) := by
  rw [kstoreA_at (c := z) (by simp) hz hl hc]
  simp
theorem fresh_agg {α : Type} {es d : Nat} {mk : α → List GV} {E : Rel α} (hE : Good es d mk E) {f : FuncId} {args xs : List GV} {H : Heap} {x : α} (hb : bors H args = some xs) (he : ∃ c bl, OO f xs H.length = some (.agg c, bl) ∧ ∀ H' T, H'.length = H.length → E (H' ++ bl ++ T) c x (List.range' H.length bl.length)) :
    ∃ c R H', kF false HH f args H = some (.agg c, H') ∧ E H' c x R ∧ R.Nodup ∧ Bd R H.length H'.length ∧ Fr [] H H' ∧ H.length ≤ H'.length := by
  obtain ⟨c, bl, h1, h2⟩ := he
  refine ⟨c, _, H ++ bl, by rw [kF_OO, hb]; simp [h1], by simpa using h2 H [] rfl, List.nodup_range', fun i hi => ?_, .app, by simp⟩
  rw [List.mem_range'_1] at hi
  simp; omega
theorem bors_agg {α : Type} {es d : Nat} {mk : α → List GV} {E : Rel α} (hE : Good es d mk E) (hd : d ≤ 8) {H : Heap} {c : List GV} {x : α} {R : List Nat} (he : E H c x R) {gs xs : List GV} (h : bors H gs = some xs) : bors H (.agg c :: gs) = some (.agg (mk x) :: xs) := by
  rw [bors_cons, hE.lendS hd he, h]; rfl
theorem kN_at {f : FuncId} {args xs : List GV} {H : Heap} {v : GV} (hb : bors H args = some xs) (h : NN f xs = some v) : kN NN f args H = some v := by rw [kN_eq, hb]; exact h
theorem ksl_fzl {α : Type} {es : Nat} {t : Bool} {mk : α → List GV} (hm : ∀ a, (mk a).length = es) {xs : List α} {n : Int} (h0 : 0 ≤ n) (h1 : n ≤ xs.length) : ksl es (fzl t es mk xs) none (some (.int .i64 n)) none = some (fzl t es mk (xs.take n.toNat)) := by
  cases xs with
  | nil =>
    have : n = 0 := by simp at h1; omega
    subst this
    simp [fzl, mt, ksl, kslice, gslice, gopt, gint]
  | cons x xs =>
    have hl := len_flat hm (x :: xs)
    by_cases hn : n = 0
    · subst hn
      have q : (0 : Int) ≤ (xs.length : Int) + 1 := by omega
      simp [fzl, mt, ksl, kslice, gslice, gopt, gint, q]
    · have e : ((x :: xs).take n.toNat).length = n.toNat := by rw [List.length_take]; omega
      have hne : 0 < ((x :: xs).take n.toNat).length := by omega
      rw [fzl_ne hne, e]
      have h2 : n ≤ (xs.length : Int) + 1 := by simpa using h1
      have h3 : ((x :: xs).flatMap mk).take (n.toNat * es) = ((x :: xs).take n.toNat).flatMap mk := by
        have := len_flat hm ((x :: xs).take n.toNat)
        rw [e] at this
        conv => lhs; rw [← List.take_append_drop n.toNat (x :: xs), List.flatMap_append]
        rw [← this, List.take_left]
      have h3' : (mk x ++ xs.flatMap mk).take (n.toNat * es) = ((x :: xs).take n.toNat).flatMap mk := h3
      simp [fzl, ksl, kslice, gslice, gopt, gint, h0, h2, hn, h3']

theorem app_sl {α : Type} {es d b : Nat} {mk : α → List GV} {E : Rel α} (hE : Good es d mk E) (h0 : 0 < es) {z : List GV} (hz : z.length = es) (hb : b ≤ 1024) {H : Heap} {v : GV} {xs : List α} {R : List Nat} (he : RSl es E H [v] xs R) (nd : R.Nodup) (hn : xs.length ≤ 4194304)
    {cx : List GV} {x : α} {Rx : List Nat} (hx : E H cx x Rx) (nx : Rx.Nodup) (hd : ∀ i ∈ Rx, i ∉ R) {q : Nat} (hq : H[q]? = some cx) :
    ∃ v' H' R', kapp z es b v (.sl q 0 1 1 es) H = some (v', H') ∧ RSl es E H' [v'] (xs ++ [x]) R' ∧ R'.Nodup ∧ (∀ i ∈ R', i ∈ R ∨ i ∈ Rx ∨ i = H.length) ∧ Fr R H H' ∧ (v'.cells = [v'] ∧ v'.isCell = true) ∧ ((∃ i, v = .sl i 0 xs.length xs.length es ∧ i ∈ R ∧ H'.length = H.length ∧ kblk v = [i]) ∨ (kblk v = [] ∧ H' = H ++ [cx])) := by
  have hcl := hE.len hx
  have hcc := hE.cell hx
  have hg : gcells H es (.sl q 0 1 1 es) = some (1, cx, [q]) := by
    unfold gcells
    simp [hq, hcl]
    rw [List.take_of_length_le (by omega)]
  have h2 : 1 * b ≤ roomMax := by simp only [roomMax]; omega
  rcases he with ⟨rfl, rfl, hc⟩ | ⟨i, css, Rs, hv, hi, ha, rfl⟩
  · have hE' : E (H ++ [cx]) cx x Rx := hE.grow hx
    refine ⟨.sl H.length 0 1 1 es, H ++ [cx], H.length :: Rx, ?_, Or.inr ⟨H.length, [cx], [Rx], rfl, by simp, .cons hE' .nil, by simp⟩, ?_, ?_, .app, ⟨rfl, rfl⟩, Or.inr ⟨?_, rfl⟩⟩
    · unfold kapp
      rw [hg]
      simp only [Option.bind_some]
      rw [if_pos ⟨hcc, hz, by simp only [maxLen]; omega, h2⟩]
      rcases hc with hc | hc <;> (injection hc with hc; subst hc; rfl)
    · rw [List.nodup_cons]
      exact ⟨fun h => by have := hE.mem hx _ h; omega, nx⟩
    · intro k hk
      rcases List.mem_cons.1 hk with rfl | hk
      · exact Or.inr (Or.inr rfl)
      · exact Or.inr (Or.inl hk)
    · rcases hc with hc | hc <;> (injection hc with hc; subst hc; rfl)
  · injection hv with hv
    obtain ⟨fl, fe⟩ := All3.flen (fun h => hE.len h) ha
    rw [List.nodup_cons] at nd
    have hir : i ∉ Rx := fun h => hd i h (List.mem_cons_self ..)
    have hil := (List.getElem?_eq_some_iff.1 hi).1
    have e1 : (css ++ [cx]).flatten = css.flatten ++ cx := by simp
    refine ⟨.sl i 0 (xs.length + 1) (xs.length + 1) es, H.set i (css ++ [cx]).flatten, i :: (Rs.flatten ++ Rx), ?_, Or.inr ⟨i, css ++ [cx], Rs ++ [Rx], by rw [List.length_append]; rfl, ?_, ?_, by simp⟩, ?_, ?_, .set (List.mem_cons_self ..), ⟨rfl, rfl⟩, Or.inl ⟨i, hv, List.mem_cons_self .., by rw [List.length_set], by rw [hv]; rfl⟩⟩
    · rw [hv]
      have h1 : (xs.length + 1) * b ≤ 4194305 * 1024 := Nat.mul_le_mul (by omega) hb
      unfold kapp
      rw [hg]
      simp only [Option.bind_some]
      rw [if_pos ⟨hcc, hz, by simp only [maxLen]; omega, h2⟩]
      simp only [Nat.zero_add, cellsAt_if, hi, Option.bind_some, fl, if_true]
      rw [if_pos ⟨trivial, Nat.le_refl _, by simp only [roomMax]; omega, by simp only [maxLen]; omega⟩, if_neg (by omega), if_pos ⟨trivial, h0⟩, List.take_of_length_le (by omega), e1]
    · rw [List.getElem?_set_self hil]
    · refine All3.snoc (All3.frame (fun a b => hE.frame a b) ha fun k hk => List.getElem?_set_ne fun e => nd.1 (by rw [e]; exact hk)) (hE.frame hx fun k hk => List.getElem?_set_ne fun e => hir (by rw [e]; exact hk))
    · rw [List.nodup_cons, List.nodup_append, List.mem_append]
      exact ⟨fun h => h.elim nd.1 hir, nd.2, nx, fun a ha b hb e => hd b hb (List.mem_cons_of_mem _ (e ▸ ha))⟩
    · intro k hk
      rcases List.mem_cons.1 hk with rfl | hk
      · exact Or.inl (List.mem_cons_self ..)
      · rcases List.mem_append.1 hk with hk | hk
        · exact Or.inl (List.mem_cons_of_mem _ hk)
        · exact Or.inr (Or.inl hk)
theorem kbs_at {Q : Type} {len es : Nat} {c : List GV} {H : Heap} {K : GV → Heap → Option Q} : kbs len es c H K = K (.sl H.length 0 len len es) (H ++ [c]) := rfl
theorem push {α : Type} {es d b : Nat} {mk : α → List GV} {E : Rel α} (hE : Good es d mk E) (h0 : 0 < es) {z : List GV} (hz : z.length = es) (hb : b ≤ 1024) {H : Heap} {v : GV} {xs : List α} {R : List Nat} (he : RSl es E H [v] xs R) (nd : R.Nodup) (hn : xs.length ≤ 4194304)
    {cx : List GV} {x : α} {Rx : List Nat} (hx : E H cx x Rx) (nx : Rx.Nodup) (hd : ∀ i ∈ Rx, i ∉ R) {p o n : Nat} {C : List GV} (hp : H[p]? = some C) (hC : C.length = n) (ho : o < n) (hpR : p ∉ R) (hpx : p ∉ Rx) :
    ∃ v' H4 H5 R', kapp z es b v (.sl H.length 0 1 1 es) (H ++ [cx]) = some (v', H4) ∧ kstore 1 H4 (.ptr p o n) v' = some H5 ∧ RSl es E H5 [v'] (xs ++ [x]) R' ∧ R'.Nodup ∧ (∀ i ∈ R', i ∈ R ∨ i ∈ Rx ∨ H.length ≤ i) ∧ H5[p]? = some (C.set o v') ∧ Fr (p :: R) H H5 := by
  have hpl := (List.getElem?_eq_some_iff.1 hp).1
  have hm := (RSl.good hE).mem he
  obtain ⟨v', H4, R', a1, a2, a3, a4, a5, a6, _⟩ := app_sl hE h0 hz hb (H := H ++ [cx]) ((RSl.good hE).grow he) nd hn (hE.grow hx) nx hd (q := H.length) (by simp)
  have hp4 : H4[p]? = some C := a5.blk (by rw [List.getElem?_append_left hpl]; exact hp) hpR
  have hpl4 := (List.getElem?_eq_some_iff.1 hp4).1
  have hpR' : p ∉ R' := fun h => by
    rcases a4 p h with h | h | h
    · exact hpR h
    · exact hpx h
    · rw [List.length_append] at h; simp at h; omega
  refine ⟨v', H4, H4.set p (C.set o v'), R', a1, kstore_at hp4 hC ho a6.1 a6.2, (RSl.good hE).keep a2 (.set (R := [p]) (by simp)) (fun i hi h => hpR' (by rw [List.mem_singleton] at h; rw [← h]; exact hi)), a3, fun i hi => ?_, List.getElem?_set_self hpl4, ?_⟩
  · rcases a4 i hi with h | h | h
    · exact Or.inl h
    · exact Or.inr (Or.inl h)
    · rw [List.length_append] at h; simp at h; exact Or.inr (Or.inr (by omega))
  · exact (Fr.app (t := [cx])).trans ((a5.sub (fun i hi => List.mem_cons_of_mem _ hi)).trans (.set (List.mem_cons_self ..)))
end Go.Proofs.Ytlbnioapepelnaa.G

namespace Go.Proofs.Ytlbnioapepelnaa.G
open Go.RowKit
/-! Which blocks data lead to. -/
def Cl {α : Type} (d : Nat) (E : Rel α) : Prop := ∀ {h : Heap} {c : List GV} {x : α} {R : List Nat}, E h c x R → ∀ D, kcll (kcl (D + d) h) c = some R
theorem kcll_pl {d : Nat} {h : Heap} : ∀ {l : List GV}, l.all Pl = true → kcll (kcl d h) l = some []
  | [], _ => rfl
  | g :: l, hl => by
    rw [List.all_cons, Bool.and_eq_true] at hl
    have e : kcl d h g = some [] := by
      cases g <;> first | (cases d <;> rfl) | cases hl.1
    unfold kcll
    rw [e, kcll_pl hl.2]; rfl
theorem kcll_app {f : GV → Option (List Nat)} : ∀ {l m : List GV} {a b : List Nat}, kcll f l = some a → kcll f m = some b → kcll f (l ++ m) = some (a ++ b)
  | [], m, a, b, h1, h2 => by cases h1; exact h2
  | g :: l, m, a, b, h1, h2 => by
    unfold kcll at h1
    obtain ⟨p, e1, h1⟩ := obsi.1 h1
    obtain ⟨q, e2, h1⟩ := obsi.1 h1
    cases h1
    rw [List.cons_append]
    unfold kcll
    rw [e1, kcll_app e2 h2]
    simp
theorem RFl.cl {α : Type} {mk : α → List GV} (hp : ∀ x, (mk x).all Pl = true) {d : Nat} : Cl d (RFl mk) := by
  rintro h c x R ⟨rfl, rfl⟩ D
  exact kcll_pl (hp x)
theorem RSeq.cl {α β : Type} {d : Nat} {E : Rel α} {F : Rel β} (hE : Cl d E) (hF : Cl d F) : Cl d (RSeq E F) := by
  rintro h c x R ⟨c1, c2, R1, R2, rfl, rfl, h1, h2⟩ D
  exact kcll_app (hE h1 D) (hF h2 D)
theorem RSl.cl {α : Type} {es d : Nat} {E : Rel α} (hE : Cl d E) : Cl (d + 1) (RSl es E) := by
  rintro h c xs R (⟨rfl, rfl, hc⟩ | ⟨b, css, Rs, rfl, hb, ha, rfl⟩) D
  · rcases hc with rfl | rfl <;> rfl
  · have key : ∀ {css : List (List GV)} {xs : List α} {Rs : List (List Nat)}, All3 (E h) css xs Rs → kcll (kcl (D + d) h) css.flatten = some Rs.flatten := by
      intro css xs Rs ha
      induction ha with
      | nil => rfl
      | cons a _ ih => rw [List.flatten_cons, List.flatten_cons]; exact kcll_app (hE a D) ih
    have e : kcl (D + (d + 1)) h (.sl b 0 xs.length xs.length es) = some (b :: Rs.flatten) := by
      rw [← Nat.add_assoc]
      simp only [kcl, hb, key ha, Option.bind_some]
    simp only [kcll, e, Option.bind_some]
    simp
theorem Cl.mono {α : Type} {d d' : Nat} {E : Rel α} (hE : Cl d E) (hd : d ≤ d') : Cl d' E := fun {h c x R} he D => by
  have := hE he (D + (d' - d))
  rwa [show D + (d' - d) + d = D + d' by omega] at this
theorem Cl.agg {α : Type} {d : Nat} {E : Rel α} (hE : Cl d E) (hd : d ≤ 8) {h : Heap} {c : List GV} {x : α} {R : List Nat} (he : E h c x R) : kcl 9 h (.agg c) = some R := by
  have := hE he (8 - d)
  rw [show 8 - d + d = 8 by omega] at this
  exact this
end Go.Proofs.Ytlbnioapepelnaa.G

namespace Go.Proofs.Ytlbnioapepelnaa.G
open Go.RowKit
theorem RFl.frz {α : Type} {mk : α → List GV} (hp : ∀ x, (mk x).all Pl = true) {d : Nat} {h : Heap} {c : List GV} {x : α} {R : List Nat} (he : RFl mk h c x R) : Frz (d + 1) h c (mk x) := by
  obtain ⟨rfl, rfl⟩ := he
  have := hp x
  generalize mk x = l at this
  induction l with
  | nil => exact .nil
  | cons g l ih =>
    rw [List.all_cons, Bool.and_eq_true] at this
    refine .cons (r := []) ?_ (ih this.2)
    cases g <;> first | rfl | cases this.1
theorem RSl.frz {α : Type} {es d : Nat} {mk mk' : α → List GV} {E : Rel α} (hG : Good es d mk E) {n : Nat} {h : Heap} (hE : ∀ c x R, E h c x R → Frz n h c (mk' x)) {v : GV} {xs : List α} {R : List Nat} (he : RSl es E h [v] xs R) : Frz (n + 1) h [v] [fzl false es mk' xs] := by
  rcases he with ⟨rfl, rfl, hc⟩ | ⟨b, css, Rs, hv, hb, ha, rfl⟩
  · rcases hc with hc | hc <;> (injection hc with hc; subst hc; exact .cons (r := []) rfl .nil)
  · injection hv with hv
    subst hv
    obtain ⟨fl, fe⟩ := All3.flen (fun h => hG.len h) ha
    have hf : Frz n h css.flatten (xs.flatMap mk') := by
      clear hb fl fe
      induction ha with
      | nil => exact .nil
      | cons a _ ih => exact .append (hE _ _ _ a) ih
    obtain ⟨ys, h1, h2⟩ := hf
    refine .cons (r := []) ?_ .nil
    simp only [Go.Proofs.Ytlbnioapepelnaa.G.frz, Option.bind_eq_bind, cellsAt_if, hb, Option.bind_some, Nat.zero_add, fl, if_true, List.drop_zero]
    rw [List.take_of_length_le (by omega), h1]
    simp only [Option.bind_some, Nat.le_refl, if_true]
    cases xs with
    | nil => rfl
    | cons x xs => simp [fzl, h2]
theorem RSl.frz' {α : Type} {es d : Nat} {mk mk' : α → List GV} {E : Rel α} (hG : Good es d mk E) {n : Nat} {h : Heap} (hE : ∀ c x R, E h c x R → Frz n h c (mk' x)) : ∀ c xs R, RSl es E h c xs R → Frz (n + 1) h c [fzl false es mk' xs] := fun c xs R he => by
  obtain ⟨v, rfl⟩ := List.length_eq_one_iff.1 ((RSl.good hG).len he)
  exact RSl.frz hG hE he
theorem RSeq.frz {α β : Type} {E : Rel α} {F : Rel β} {n : Nat} {h : Heap} {mk1 : α → List GV} {mk2 : β → List GV} (hE : ∀ c x R, E h c x R → Frz n h c (mk1 x)) (hF : ∀ c x R, F h c x R → Frz n h c (mk2 x)) : ∀ c x R, RSeq E F h c x R → Frz n h c (mk1 x.1 ++ mk2 x.2) := by
  rintro c x R ⟨c1, c2, R1, R2, rfl, rfl, h1, h2⟩
  exact .append (hE _ _ _ h1) (hF _ _ _ h2)
theorem flat_frz {α : Type} {mk : α → List GV} (hp : ∀ x, (mk x).all Pl = true) {d : Nat} {h : Heap} : ∀ c x R, RFl mk h c x R → Frz (d + 1) h c (mk x) := fun c x R he => RFl.frz hp he
end Go.Proofs.Ytlbnioapepelnaa.G

namespace Go.Proofs.Ytlbnioapepelnaa.G
open Go.RowKit
def inB (n a b : Int) : Bool := decide (a ≤ n) && decide (n ≤ b)
def runeB (r : Int) : Bool := inB r 0 1114111 && !inB r 55296 57343
def widthM (r : Int) : Int := if (!runeB r || decide (r < 32) || inB r 127 159 || inB r 768 879) = true then 0 else if (inB r 4352 4447 || inB r 12288 55295 || inB r 127744 131071) = true then 2 else 1
theorem inB_iff {n a b : Int} : inB n a b = true ↔ a ≤ n ∧ n ≤ b := by simp [inB]
theorem impl_in_spec (a b c : Int) : NN fn.impl_in [.int .i64 a, .int .i64 b, .int .i64 c] = some (.bool (inB a b c)) := by
  apply S.impl_in.gives (k := 0)
  unfold inB
  simp [S.impl_in.run]
  cases decide (b ≤ a) <;> cases decide (a ≤ c) <;> simp
theorem spec_l1In_spec (a b c : Int) : NN fn.spec_l1In [.int .i64 a, .int .i64 b, .int .i64 c] = some (.bool (inB a b c)) := by
  apply S.spec_l1In.gives (k := 0)
  unfold inB
  simp [S.spec_l1In.run]
  cases decide (b ≤ a) <;> cases decide (a ≤ c) <;> simp
theorem k_in (a b c : Int) (H : Heap) : kN NN fn.impl_in [.int .i64 a, .int .i64 b, .int .i64 c] H = some (.bool (inB a b c)) := kN_at (by simp) (impl_in_spec a b c)
theorem k_l1In (a b c : Int) (H : Heap) : kN NN fn.spec_l1In [.int .i64 a, .int .i64 b, .int .i64 c] H = some (.bool (inB a b c)) := kN_at (by simp) (spec_l1In_spec a b c)
theorem impl_RuneOk_spec (r : Int) : NN fn.impl_RuneOk [.int .i64 r] = some (.bool (runeB r)) := by
  apply S.impl_RuneOk.gives (k := 0)
  have q1 := k_in r 0 1114111
  have q2 := k_in r 55296 57343
  unfold runeB
  generalize inB r 0 1114111 = a at *
  generalize inB r 55296 57343 = b at *
  cases a <;> simp [S.impl_RuneOk.run, q1, q2, -kN_eq]
theorem spec_RuneOk_spec (r : Int) : NN fn.spec_RuneOk [.int .i64 r] = some (.bool (runeB r)) := by
  apply S.spec_RuneOk.gives (k := 0)
  have q1 := k_l1In r 0 1114111
  have q2 := k_l1In r 55296 57343
  unfold runeB
  generalize inB r 0 1114111 = a at *
  generalize inB r 55296 57343 = b at *
  cases a <;> simp [S.spec_RuneOk.run, q1, q2, -kN_eq]
theorem k_rune (r : Int) (H : Heap) : kN NN fn.impl_RuneOk [.int .i64 r] H = some (.bool (runeB r)) := kN_at (by simp) (impl_RuneOk_spec r)
theorem k_srune (r : Int) (H : Heap) : kN NN fn.spec_RuneOk [.int .i64 r] H = some (.bool (runeB r)) := kN_at (by simp) (spec_RuneOk_spec r)
theorem impl_Width_spec (r : Int) : NN fn.impl_Width [.int .i64 r] = some (.int .i64 (widthM r)) := by
  apply S.impl_Width.gives (k := 0)
  have q0 := k_rune r
  have q1 := k_in r 127 159
  have q2 := k_in r 768 879
  have q3 := k_in r 4352 4447
  have q4 := k_in r 12288 55295
  have q5 := k_in r 127744 131071
  have q6 : kbin .lss (.int .i64 r) (.int .i64 32) = some (.bool (decide (r < 32))) := kbin_lss
  unfold widthM
  generalize decide (r < 32) = c at *
  generalize runeB r = a0 at *
  generalize inB r 127 159 = a1 at *
  generalize inB r 768 879 = a2 at *
  generalize inB r 4352 4447 = a3 at *
  generalize inB r 12288 55295 = a4 at *
  generalize inB r 127744 131071 = a5 at *
  cases a0 <;> cases c <;> cases a1 <;> cases a2 <;> cases a3 <;> cases a4 <;> simp [S.impl_Width.run, q0, q1, q2, q3, q4, q5, q6, -kN_eq, -kbin_lss] <;> cases a5 <;> simp
theorem spec_Width_spec (r : Int) : NN fn.spec_Width [.int .i64 r] = some (.int .i64 (widthM r)) := by
  apply S.spec_Width.gives (k := 0)
  have q0 := k_srune r
  have q1 := k_l1In r 127 159
  have q2 := k_l1In r 768 879
  have q3 := k_l1In r 4352 4447
  have q4 := k_l1In r 12288 55295
  have q5 := k_l1In r 127744 131071
  have q6 : kbin .lss (.int .i64 r) (.int .i64 32) = some (.bool (decide (r < 32))) := kbin_lss
  unfold widthM
  generalize decide (r < 32) = c at *
  generalize runeB r = a0 at *
  generalize inB r 127 159 = a1 at *
  generalize inB r 768 879 = a2 at *
  generalize inB r 4352 4447 = a3 at *
  generalize inB r 12288 55295 = a4 at *
  generalize inB r 127744 131071 = a5 at *
  cases a0 <;> cases c <;> cases a1 <;> cases a2 <;> cases a3 <;> cases a4 <;> simp [S.spec_Width.run, q0, q1, q2, q3, q4, q5, q6, -kN_eq, -kbin_lss] <;> cases a5 <;> simp
theorem k_width (r : Int) (H : Heap) : kN NN fn.impl_Width [.int .i64 r] H = some (.int .i64 (widthM r)) := kN_at (by simp) (impl_Width_spec r)
theorem k_swidth (r : Int) (H : Heap) : kN NN fn.spec_Width [.int .i64 r] H = some (.int .i64 (widthM r)) := kN_at (by simp) (spec_Width_spec r)

/-! Lists. -/
theorem loop_find {α R : Type} {xs : List α} {p : α → Bool} {f : Nat → Nat → R} {A : Nat → R} {B : R} (h1 : ∀ j r (hj : j < xs.length), f (r + 1) j = if p xs[j] = true then A j else f r (j + 1)) (h2 : ∀ r, f (r + 1) xs.length = B) :
    ∀ r j, xs.length - j < r → j ≤ xs.length → f r j = if (xs.drop j).any p = true then A (j + (xs.drop j).findIdx p) else B := by
  intro r
  induction r with
  | zero => intro j h; omega
  | succ r ih =>
    intro j hr hj
    rcases Nat.lt_or_ge j xs.length with h | h
    · rw [h1 j r h, List.drop_eq_getElem_cons h, List.any_cons, List.findIdx_cons]
      by_cases hp : p xs[j] = true
      · simp [hp]
      · rw [if_neg hp, ih (j + 1) (by omega) (by omega)]
        simp only [Bool.not_eq_true] at hp
        simp only [hp, Bool.false_or, cond_false]
        split
        · congr 1; omega
        · rfl
    · have : j = xs.length := by omega
      subst this
      rw [h2 r]
      simp
theorem any_not {α : Type} {p : α → Bool} {xs : List α} : (xs.any fun a => !p a) = !xs.all p := by
  induction xs with
  | nil => rfl
  | cons x xs ih => rw [List.any_cons, List.all_cons, ih, Bool.not_and]
theorem klen0 {n : Nat} : kbin .eql (.int .i64 (n : Int)) (.int .i64 0) = some (.bool (decide (n = 0))) := by
  rw [kbin_eql]; congr 2; rw [Bool.eq_iff_iff]; simp
theorem loop_allB {α R : Type} {xs : List α} {p : α → Bool} {f : Nat → Nat → R} {A B : R} (h1 : ∀ j r (hj : j < xs.length), f (r + 1) j = bif p xs[j] then f r (j + 1) else B) (h2 : ∀ r, f (r + 1) xs.length = A) :
    ∀ r j, xs.length - j < r → j ≤ xs.length → f r j = bif (xs.drop j).all p then A else B := by
  intro r
  induction r with
  | zero => intro j h; omega
  | succ r ih =>
    intro j hr hj
    rcases Nat.lt_or_ge j xs.length with h | h
    · rw [h1 j r h, List.drop_eq_getElem_cons h, List.all_cons]
      cases hp : p xs[j]
      · simp
      · rw [cond_true, ih (j + 1) (by omega) (by omega), Bool.true_and]
    · have : j = xs.length := by omega
      subst this
      rw [h2 r]
      simp
end Go.Proofs.Ytlbnioapepelnaa.G

namespace Go.Proofs.Ytlbnioapepelnaa.G
open Go.RowKit
theorem kbs_at' {Q : Type} {len es : Nat} {c : List GV} {H : Heap} {K : GV → Heap → Option Q} : kbs len es c H K = K (.sl H.length 0 len len es) (H ++ [c]) := rfl
theorem cy_len (l : List UInt8) : (l.flatMap cy).length = l.length := by have := len_flat (mk := cy) (es := 1) (fun _ => rfl) l; omega
theorem kconv8 (x : Int) : ∃ c : UInt8, kconvI .u8 (.int .i64 x) = some (.int .u8 (c.toNat : Int)) := by
  refine ⟨UInt8.ofNat (x % 256).toNat, ?_⟩
  rw [kconvI_int]
  congr 2
  have h1 := Int.emod_nonneg x (b := 256) (by omega)
  have h2 := Int.emod_lt_of_pos x (b := 256) (by omega)
  have h3 : (UInt8.ofNat (x % 256).toNat).toNat = (x % 256).toNat := by
    rw [UInt8.toNat_ofNat']
    exact Nat.mod_eq_of_lt (by omega)
  rw [h3]
  simp only [IntKind.wrap, IntKind.bits, IntKind.signed]
  simp
  omega
theorem kquo_ex (a b : Int) (h : b ≠ 0) : ∃ y : Int, kbin .quo (.int .i64 a) (.int .i64 b) = some (.int .i64 y) := ⟨_, kbin_quo h⟩
theorem krem_ex (a b : Int) (h : b ≠ 0) : ∃ y : Int, kbin .rem (.int .i64 a) (.int .i64 b) = some (.int .i64 y) := ⟨_, kbin_rem h⟩
theorem fin_lit (l : List UInt8) : finN (.sl 0 0 l.length l.length 1) [l.flatMap cy] = some (fzl false 1 cy l) :=
  finN_of (frz_sl (mk := cy) (mk' := cy) (rest := []) (d := 8) (fun _ => rfl) (by simp) (by have := cy_len l; simpa using this) (Nat.le_refl _) fun a _ => .cons rfl .nil)
theorem spec_l1Put_spec (r : Int) : ∃ l : List UInt8, NN fn.spec_l1Put [.int .i64 r] = some (fzl false 1 cy l) ∧ l.length ≤ 4 := by
  by_cases h1 : r < 128
  · obtain ⟨c, e1⟩ := kconv8 r
    have fl : finN (.sl 0 0 1 1 1) [[GV.int .u8 (c.toNat : Int)]] = some (fzl false 1 cy [c]) := fin_lit [c]
    have gf : gfill (fun i => some (i, 1)) (zeros [(.int .u8 0)] 1) [(0, .int .u8 (c.toNat : Int))] = some [GV.int .u8 (c.toNat : Int)] := by rfl
    refine ⟨[c], ?_, by simp⟩
    apply S.spec_l1Put.gives (k := 0)
    generalize GV.int .u8 (c.toNat : Int) = C at *
    generalize fzl false 1 cy [c] = Z at *
    simp [S.spec_l1Put.run, h1, e1, gf, kbs_at', fl]
  by_cases h2 : r < 2048
  · obtain ⟨x1, q1⟩ := kquo_ex r 64 (by omega)
    obtain ⟨x2, q2⟩ := kbin_ex .add (by simp) 192 x1
    obtain ⟨c, e1⟩ := kconv8 x2
    obtain ⟨x3, q3⟩ := krem_ex r 64 (by omega)
    obtain ⟨x4, q4⟩ := kbin_ex .add (by simp) 128 x3
    obtain ⟨d, e2⟩ := kconv8 x4
    have fl : finN (.sl 0 0 2 2 1) [[GV.int .u8 (c.toNat : Int), .int .u8 (d.toNat : Int)]] = some (fzl false 1 cy [c, d]) := fin_lit [c, d]
    have gf : gfill (fun i => some (i, 1)) (zeros [(.int .u8 0)] 2) [(0, .int .u8 (c.toNat : Int)), (1, .int .u8 (d.toNat : Int))] = some [GV.int .u8 (c.toNat : Int), .int .u8 (d.toNat : Int)] := by rfl
    refine ⟨[c, d], ?_, by simp⟩
    apply S.spec_l1Put.gives (k := 0)
    generalize GV.int .u8 (c.toNat : Int) = C at *
    generalize GV.int .u8 (d.toNat : Int) = D at *
    generalize fzl false 1 cy [c, d] = Z at *
    simp [S.spec_l1Put.run, h1, h2, q1, q2, q3, q4, e1, e2, gf, kbs_at', fl, -kbin_add, -kconvI_int]
  by_cases h3 : r < 65536
  · obtain ⟨x1, q1⟩ := kquo_ex r 4096 (by omega)
    obtain ⟨x2, q2⟩ := kbin_ex .add (by simp) 224 x1
    obtain ⟨c, e1⟩ := kconv8 x2
    obtain ⟨x3, q3⟩ := kquo_ex r 64 (by omega)
    obtain ⟨x4, q4⟩ := krem_ex x3 64 (by omega)
    obtain ⟨x5, q5⟩ := kbin_ex .add (by simp) 128 x4
    obtain ⟨d, e2⟩ := kconv8 x5
    obtain ⟨x6, q6⟩ := krem_ex r 64 (by omega)
    obtain ⟨x7, q7⟩ := kbin_ex .add (by simp) 128 x6
    obtain ⟨f, e3⟩ := kconv8 x7
    have fl : finN (.sl 0 0 3 3 1) [[GV.int .u8 (c.toNat : Int), .int .u8 (d.toNat : Int), .int .u8 (f.toNat : Int)]] = some (fzl false 1 cy [c, d, f]) := fin_lit [c, d, f]
    have gf : gfill (fun i => some (i, 1)) (zeros [(.int .u8 0)] 3) [(0, .int .u8 (c.toNat : Int)), (1, .int .u8 (d.toNat : Int)), (2, .int .u8 (f.toNat : Int))] = some [GV.int .u8 (c.toNat : Int), .int .u8 (d.toNat : Int), .int .u8 (f.toNat : Int)] := by rfl
    refine ⟨[c, d, f], ?_, by simp⟩
    apply S.spec_l1Put.gives (k := 0)
    generalize GV.int .u8 (c.toNat : Int) = C at *
    generalize GV.int .u8 (d.toNat : Int) = D at *
    generalize GV.int .u8 (f.toNat : Int) = F at *
    generalize fzl false 1 cy [c, d, f] = Z at *
    simp [S.spec_l1Put.run, h1, h2, h3, q1, q2, q3, q4, q5, q6, q7, e1, e2, e3, gf, kbs_at', fl, -kbin_add, -kconvI_int]
  · obtain ⟨x1, q1⟩ := kquo_ex r 262144 (by omega)
    obtain ⟨x2, q2⟩ := kbin_ex .add (by simp) 240 x1
    obtain ⟨c, e1⟩ := kconv8 x2
    obtain ⟨x3, q3⟩ := kquo_ex r 4096 (by omega)
    obtain ⟨x4, q4⟩ := krem_ex x3 64 (by omega)
    obtain ⟨x5, q5⟩ := kbin_ex .add (by simp) 128 x4
    obtain ⟨d, e2⟩ := kconv8 x5
    obtain ⟨x6, q6⟩ := kquo_ex r 64 (by omega)
    obtain ⟨x7, q7⟩ := krem_ex x6 64 (by omega)
    obtain ⟨x8, q8⟩ := kbin_ex .add (by simp) 128 x7
    obtain ⟨f, e3⟩ := kconv8 x8
    obtain ⟨x9, q9⟩ := krem_ex r 64 (by omega)
    obtain ⟨x10, q10⟩ := kbin_ex .add (by simp) 128 x9
    obtain ⟨g, e4⟩ := kconv8 x10
    have fl : finN (.sl 0 0 4 4 1) [[GV.int .u8 (c.toNat : Int), .int .u8 (d.toNat : Int), .int .u8 (f.toNat : Int), .int .u8 (g.toNat : Int)]] = some (fzl false 1 cy [c, d, f, g]) := fin_lit [c, d, f, g]
    have gf : gfill (fun i => some (i, 1)) (zeros [(.int .u8 0)] 4) [(0, .int .u8 (c.toNat : Int)), (1, .int .u8 (d.toNat : Int)), (2, .int .u8 (f.toNat : Int)), (3, .int .u8 (g.toNat : Int))] = some [GV.int .u8 (c.toNat : Int), .int .u8 (d.toNat : Int), .int .u8 (f.toNat : Int), .int .u8 (g.toNat : Int)] := by rfl
    refine ⟨[c, d, f, g], ?_, by simp⟩
    apply S.spec_l1Put.gives (k := 0)
    generalize GV.int .u8 (c.toNat : Int) = C at *
    generalize GV.int .u8 (d.toNat : Int) = D at *
    generalize GV.int .u8 (f.toNat : Int) = F at *
    generalize GV.int .u8 (g.toNat : Int) = E at *
    generalize fzl false 1 cy [c, d, f, g] = Z at *
    simp [S.spec_l1Put.run, h1, h2, h3, q1, q2, q3, q4, q5, q6, q7, q8, q9, q10, e1, e2, e3, e4, gf, kbs_at', fl, -kbin_add, -kconvI_int]

theorem spec_l1DrawRune_spec {p : Nat} {code : List UInt8} {H : Heap} (hl : code.length ≤ 1048576) (hc : Cur p code H) : ∃ (n : Int) (H' : Heap), HH fn.spec_l1DrawRune [.ptr p 0 3] H = some (.int .i64 n, H') ∧ Dr p code H H' := by
  have gf : gfill (fun i => some (i, 1)) (zeros [(.int .i64 0)] 12) [(0, (.int .i64 65)), (1, (.int .i64 97)), (2, (.int .i64 98)), (3, (.int .i64 32)), (4, (.int .i64 233)), (5, (.int .i64 19968)), (6, (.int .i64 128512)), (7, (.int .i64 769)), (8, (.int .i64 10)), (9, (.int .i64 27)), (10, (.int .i64 127)), (11, (.int .i64 65533))] = some ([65, 97, 98, 32, 233, 19968, 128512, 769, 10, 27, 127, 65533].map (GV.int .i64)) := by rfl
  obtain ⟨x, H2, q, g, e2, k1, k2, ⟨n, rfl⟩, d2⟩ := draw_tab hl hc (P := fun g => ∃ n : Int, g = .int .i64 n) (T := [65, 97, 98, 32, 233, 19968, 128512, 769, 10, 27, 127, 65533].map (GV.int .i64)) (by
    intro g hg
    obtain ⟨n, _, rfl⟩ := List.mem_map.1 hg
    exact ⟨n, rfl⟩) (n := 12) rfl (by decide) (m := 12) rfl
  refine ⟨n, H2, ?_, d2⟩
  apply S.spec_l1DrawRune.gives (k := 0)
  generalize ([65, 97, 98, 32, 233, 19968, 128512, 769, 10, 27, 127, 65533] : List Int).map (GV.int .i64) = T at *
  simp [S.spec_l1DrawRune.run, gf, kbs_at', e2, k1, k2, finH, -kia_sl]


theorem kbstr_fzl {t : Bool} {l : List UInt8} {h : Heap} : kbstr h (fzl t 1 cy l) = some (.str (bs l)) := by
  cases l with
  | nil => rfl
  | cons b l =>
    have hl := cy_len (b :: l)
    have hg : gcells h 1 (fzl t 1 cy (b :: l)) = some ((b :: l).length, (b :: l).flatMap cy, []) := by
      simp only [fzl, gcells]
      simp [hl]
    have e : kbstr h (fzl t 1 cy (b :: l)) = (gcells h 1 (fzl t 1 cy (b :: l))).bind fun (n, cs, _) => (cs.mapM gbyte).bind fun ns => if ns.length = n then some (.str ⟨(ns.map fun n => UInt8.ofNat n.toNat).toArray⟩) else none := rfl
    rw [e, hg]
    simp only [Option.bind_some, gbytes]
    rw [if_pos (by simp)]
    congr 3
    rw [List.map_map]
    conv => rhs; rw [← List.map_id (b :: l)]
    apply congrArg
    apply List.map_congr_left
    intro c _
    simp
theorem spec_Put_spec (r : Int) : ∃ l : List UInt8, NN fn.spec_Put [.int .i64 r] = some (.str (bs l)) := by
  obtain ⟨l, e, _⟩ := spec_l1Put_spec r
  have k1 : kN NN fn.spec_l1Put [.int .i64 r] [] = some (fzl false 1 cy l) := kN_at (by simp) e
  have k2 := k_srune r []
  cases hb : runeB r
  · rw [hb] at k2
    refine ⟨[], S.spec_Put.gives (k := 0) ?_⟩
    simp [S.spec_Put.run, k2, -kN_eq]
  · rw [hb] at k2
    refine ⟨l, S.spec_Put.gives (k := 0) ?_⟩
    simp [S.spec_Put.run, k2, k1, kbstr_fzl, -kN_eq]
theorem spec_l1Long_spec (b : UInt8) : ∃ n : Nat, NN fn.spec_l1Long [.int .u8 b.toNat] = some (.int .i64 (n : Int)) ∧ n ≤ 4 := by
  by_cases h1 : (b.toNat : Int) < 128
  · exact ⟨1, by apply S.spec_l1Long.gives (k := 0); simp [S.spec_l1Long.run, h1], by omega⟩
  by_cases h2 : 192 ≤ (b.toNat : Int) ∧ (b.toNat : Int) < 224
  · exact ⟨2, by apply S.spec_l1Long.gives (k := 0); simp [S.spec_l1Long.run, h1, h2.1, h2.2], by omega⟩
  by_cases h3 : 224 ≤ (b.toNat : Int) ∧ (b.toNat : Int) < 240
  · refine ⟨3, ?_, by omega⟩
    apply S.spec_l1Long.gives (k := 0)
    have a : 192 ≤ (b.toNat : Int) := by omega
    have c : ¬ (b.toNat : Int) < 224 := by omega
    simp [S.spec_l1Long.run, h1, a, c, h3.1, h3.2]
  by_cases h4 : 240 ≤ (b.toNat : Int) ∧ (b.toNat : Int) < 248
  · refine ⟨4, ?_, by omega⟩
    apply S.spec_l1Long.gives (k := 0)
    have a : 192 ≤ (b.toNat : Int) := by omega
    have c : ¬ (b.toNat : Int) < 224 := by omega
    have a' : 224 ≤ (b.toNat : Int) := by omega
    have c' : ¬ (b.toNat : Int) < 240 := by omega
    simp [S.spec_l1Long.run, h1, a, c, a', c', h4.1, h4.2]
  refine ⟨0, ?_, by omega⟩
  apply S.spec_l1Long.gives (k := 0)
  by_cases a : 192 ≤ (b.toNat : Int)
  · have c : ¬ (b.toNat : Int) < 224 := by omega
    have a' : 224 ≤ (b.toNat : Int) := by omega
    have c' : ¬ (b.toNat : Int) < 240 := by omega
    have a'' : 240 ≤ (b.toNat : Int) := by omega
    have c'' : ¬ (b.toNat : Int) < 248 := by omega
    simp [S.spec_l1Long.run, h1, a, c, a', c', a'', c'']
  · have a' : ¬ 224 ≤ (b.toNat : Int) := by omega
    have a'' : ¬ 240 ≤ (b.toNat : Int) := by omega
    simp [S.spec_l1Long.run, h1, a, a', a'']
end Go.Proofs.Ytlbnioapepelnaa.G

namespace Go.Proofs.Ytlbnioapepelnaa.G
open Go.RowKit

/-! Int64S -/
abbrev okInt64S (a : List (Int)) : Prop := a.length ≤ 1048576
abbrev rInt64S : Rel (List (Int)) := RSl 1 (RFl ci)
theorem goodInt64S : Good 1 2 (fun xs : List Int => [fzl true 1 ci xs]) rInt64S := RSl.good (RFl.good (es := 1) (mk := ci) (fun _ => rfl) (fun _ => rfl))
/-! Parser -/
abbrev mParser (t : Bool) (a : (Int × List (Int) × Int × List (Int))) : List GV := [.int .i64 a.1, fzl t 1 ci a.2.1, .int .i64 a.2.2.1, fzl t 1 ci a.2.2.2]
def okParser (a : (Int × List (Int) × Int × List (Int))) : Prop := okInt64S a.2.1 ∧ okInt64S a.2.2.2
@[simp] theorem kloadA_Parser {h : Heap} {t : Bool} {xs : List (Int × List (Int) × Int × List (Int))} {j : Nat} : kloadA 4 h (elp t (mParser t) xs j) = xs[j]?.map fun a => .agg (mParser t a) := kloadA_elp (mk := mParser t) (es := 4) (fun _ => rfl) (by omega)
@[simp] theorem kload1_Parser_0 {h : Heap} {t : Bool} {xs : List ((Int × List (Int) × Int × List (Int)))} {j : Nat} : kload1 h (elf t (mParser t) xs j 0) = xs[j]?.bind fun a => (mParser t a)[0]? := kload1_elf (mk := mParser t) (es := 4) (fun _ => rfl) (by omega)
@[simp] theorem kload1_Parser_1 {h : Heap} {t : Bool} {xs : List ((Int × List (Int) × Int × List (Int)))} {j : Nat} : kload1 h (elf t (mParser t) xs j 1) = xs[j]?.bind fun a => (mParser t a)[1]? := kload1_elf (mk := mParser t) (es := 4) (fun _ => rfl) (by omega)
@[simp] theorem kload1_Parser_2 {h : Heap} {t : Bool} {xs : List ((Int × List (Int) × Int × List (Int)))} {j : Nat} : kload1 h (elf t (mParser t) xs j 2) = xs[j]?.bind fun a => (mParser t a)[2]? := kload1_elf (mk := mParser t) (es := 4) (fun _ => rfl) (by omega)
@[simp] theorem kload1_Parser_3 {h : Heap} {t : Bool} {xs : List ((Int × List (Int) × Int × List (Int)))} {j : Nat} : kload1 h (elf t (mParser t) xs j 3) = xs[j]?.bind fun a => (mParser t a)[3]? := kload1_elf (mk := mParser t) (es := 4) (fun _ => rfl) (by omega)
@[simp] theorem kia_Parser {t : Bool} {xs : List ((Int × List (Int) × Int × List (Int)))} {k : IntKind} {i : Int} : kia 4 (fzl t 4 (mParser t) xs) (.int k i) = if 0 ≤ i ∧ i < xs.length then some (elp t (mParser t) xs i.toNat) else none := kia_fzl (es := 4) (fun _ => rfl)
theorem ld_Parser {d : Nat} {t : Bool} (a : (Int × List (Int) × Int × List (Int))) : (mParser t a).map (lend (d + 1)) = mParser true a := map_cons' lend_int (map_cons' (lend_fzl (d := d) (mk := ci) (mk' := ci) (fun a => map_cons' lend_int rfl) a.2.1) (map_cons' lend_int (map_cons' (lend_fzl (d := d) (mk := ci) (mk' := ci) (fun a => map_cons' lend_int rfl) a.2.2.2) (rfl))))
@[simp] theorem bor_Parser {d : Nat} {h : Heap} {t : Bool} {xs : List ((Int × List (Int) × Int × List (Int)))} : bor (d + 3) h (fzl t 4 (mParser t) xs) = some (fzl true 4 (mParser true) xs, []) := bor_fzl (d := d + 2) (fun a => ld_Parser (d := d + 1) a) xs
/-! Action -/
abbrev mAction (t : Bool) (a : (Int × Int × List (Int) × Int × List (Int))) : List GV := [.int .i64 a.1, .int .i64 a.2.1, fzl t 1 ci a.2.2.1, .int .i64 a.2.2.2.1, fzl t 1 ci a.2.2.2.2]
def okAction (a : (Int × Int × List (Int) × Int × List (Int))) : Prop := okInt64S a.2.2.1 ∧ okInt64S a.2.2.2.2
@[simp] theorem kloadA_Action {h : Heap} {t : Bool} {xs : List (Int × Int × List (Int) × Int × List (Int))} {j : Nat} : kloadA 5 h (elp t (mAction t) xs j) = xs[j]?.map fun a => .agg (mAction t a) := kloadA_elp (mk := mAction t) (es := 5) (fun _ => rfl) (by omega)
@[simp] theorem kload1_Action_0 {h : Heap} {t : Bool} {xs : List ((Int × Int × List (Int) × Int × List (Int)))} {j : Nat} : kload1 h (elf t (mAction t) xs j 0) = xs[j]?.bind fun a => (mAction t a)[0]? := kload1_elf (mk := mAction t) (es := 5) (fun _ => rfl) (by omega)
@[simp] theorem kload1_Action_1 {h : Heap} {t : Bool} {xs : List ((Int × Int × List (Int) × Int × List (Int)))} {j : Nat} : kload1 h (elf t (mAction t) xs j 1) = xs[j]?.bind fun a => (mAction t a)[1]? := kload1_elf (mk := mAction t) (es := 5) (fun _ => rfl) (by omega)
@[simp] theorem kload1_Action_2 {h : Heap} {t : Bool} {xs : List ((Int × Int × List (Int) × Int × List (Int)))} {j : Nat} : kload1 h (elf t (mAction t) xs j 2) = xs[j]?.bind fun a => (mAction t a)[2]? := kload1_elf (mk := mAction t) (es := 5) (fun _ => rfl) (by omega)
@[simp] theorem kload1_Action_3 {h : Heap} {t : Bool} {xs : List ((Int × Int × List (Int) × Int × List (Int)))} {j : Nat} : kload1 h (elf t (mAction t) xs j 3) = xs[j]?.bind fun a => (mAction t a)[3]? := kload1_elf (mk := mAction t) (es := 5) (fun _ => rfl) (by omega)
@[simp] theorem kload1_Action_4 {h : Heap} {t : Bool} {xs : List ((Int × Int × List (Int) × Int × List (Int)))} {j : Nat} : kload1 h (elf t (mAction t) xs j 4) = xs[j]?.bind fun a => (mAction t a)[4]? := kload1_elf (mk := mAction t) (es := 5) (fun _ => rfl) (by omega)
@[simp] theorem kia_Action {t : Bool} {xs : List ((Int × Int × List (Int) × Int × List (Int)))} {k : IntKind} {i : Int} : kia 5 (fzl t 5 (mAction t) xs) (.int k i) = if 0 ≤ i ∧ i < xs.length then some (elp t (mAction t) xs i.toNat) else none := kia_fzl (es := 5) (fun _ => rfl)
theorem ld_Action {d : Nat} {t : Bool} (a : (Int × Int × List (Int) × Int × List (Int))) : (mAction t a).map (lend (d + 1)) = mAction true a := map_cons' lend_int (map_cons' lend_int (map_cons' (lend_fzl (d := d) (mk := ci) (mk' := ci) (fun a => map_cons' lend_int rfl) a.2.2.1) (map_cons' lend_int (map_cons' (lend_fzl (d := d) (mk := ci) (mk' := ci) (fun a => map_cons' lend_int rfl) a.2.2.2.2) (rfl)))))
@[simp] theorem bor_Action {d : Nat} {h : Heap} {t : Bool} {xs : List ((Int × Int × List (Int) × Int × List (Int)))} : bor (d + 3) h (fzl t 5 (mAction t) xs) = some (fzl true 5 (mAction true) xs, []) := bor_fzl (d := d + 2) (fun a => ld_Action (d := d + 1) a) xs
abbrev rParser : Rel ((Int × List (Int) × Int × List (Int))) := (RSeq (RFl ci) (RSeq rInt64S (RSeq (RFl ci) rInt64S)))
theorem goodParser : Good 4 2 (mParser true) rParser := (RSeq.good ((RFl.good (es := 1) (mk := ci) (fun _ => rfl) (fun _ => rfl)).mono (by omega)) (RSeq.good (goodInt64S.mono (by omega)) (RSeq.good ((RFl.good (es := 1) (mk := ci) (fun _ => rfl) (fun _ => rfl)).mono (by omega)) (goodInt64S.mono (by omega)))))
/-! ActionS -/
abbrev mActionS (t : Bool) (a : List ((Int × Int × List (Int) × Int × List (Int)))) : List GV := [fzl t 5 (mAction t) a]
def okActionS (a : List ((Int × Int × List (Int) × Int × List (Int)))) : Prop := a.length ≤ 1048576 ∧ ∀ x ∈ a, okAction x
@[simp] theorem kload1_ActionS {h : Heap} {t : Bool} {xs : List (List ((Int × Int × List (Int) × Int × List (Int))))} {j : Nat} : kload1 h (elp t (mActionS t) xs j) = xs[j]?.map fun a => fzl t 5 (mAction t) a := kload1_elp _ (fun _ => rfl)
@[simp] theorem kia_ActionS {t : Bool} {xs : List (List ((Int × Int × List (Int) × Int × List (Int))))} {k : IntKind} {i : Int} : kia 1 (fzl t 1 (mActionS t) xs) (.int k i) = if 0 ≤ i ∧ i < xs.length then some (elp t (mActionS t) xs i.toNat) else none := kia_fzl (es := 1) (fun _ => rfl)
theorem ld_ActionS {d : Nat} {t : Bool} (a : List ((Int × Int × List (Int) × Int × List (Int)))) : (mActionS t a).map (lend (d + 2)) = mActionS true a := map_cons' (lend_fzl (d := d + 1) (mk := (mAction t)) (mk' := (mAction true)) (fun a => ld_Action (d := d) a) a) (rfl)
@[simp] theorem bor_ActionS {d : Nat} {h : Heap} {t : Bool} {xs : List (List ((Int × Int × List (Int) × Int × List (Int))))} : bor (d + 4) h (fzl t 1 (mActionS t) xs) = some (fzl true 1 (mActionS true) xs, []) := bor_fzl (d := d + 3) (fun a => ld_ActionS (d := d + 1) a) xs
abbrev rAction : Rel ((Int × Int × List (Int) × Int × List (Int))) := (RSeq (RFl ci) (RSeq (RFl ci) (RSeq rInt64S (RSeq (RFl ci) rInt64S))))
theorem goodAction : Good 5 2 (mAction true) rAction := (RSeq.good ((RFl.good (es := 1) (mk := ci) (fun _ => rfl) (fun _ => rfl)).mono (by omega)) (RSeq.good ((RFl.good (es := 1) (mk := ci) (fun _ => rfl) (fun _ => rfl)).mono (by omega)) (RSeq.good (goodInt64S.mono (by omega)) (RSeq.good ((RFl.good (es := 1) (mk := ci) (fun _ => rfl) (fun _ => rfl)).mono (by omega)) (goodInt64S.mono (by omega))))))
abbrev rActionS : Rel (List ((Int × Int × List (Int) × Int × List (Int)))) := RSl 5 rAction
theorem goodActionS : Good 1 3 (mActionS true) rActionS := RSl.good goodAction
end Go.Proofs.Ytlbnioapepelnaa.G

namespace Go.Proofs.Ytlbnioapepelnaa.G
open Go.RowKit
theorem kseq_ex (op : BinOp) (h : op = .eql ∨ op = .neq) (a b : ByteArray) : ∃ t : Bool, kbin op (.str a) (.str b) = some (.bool t) := by
  rcases h with rfl | rfl <;> exact ⟨_, rfl⟩
theorem krem8 (b : UInt8) : ∃ y : Int, kbin .rem (.int .u8 b.toNat) (.int .u8 64) = some (.int .u8 y) := ⟨_, rfl⟩
theorem kconv64 (k : IntKind) (y : Int) : ∃ z : Int, kconvI .i64 (.int k y) = some (.int .i64 z) := ⟨_, rfl⟩
theorem get_l10 {R : Type} (l : List UInt8) (n : Nat) (hn : n ≤ l.length) (h4 : n ≤ 4) (h1 : 1 ≤ n) (r0 : Int) (v2 v3 : GV) (H : Heap) : ∃ x : Int, ∀ G : KT5 R, S.spec_Get.l10 8 G 8 (.str (bs l)) v2 v3 (.int .i64 (n : Int)) (.int .i64 r0) (.int .i64 1) H = G (.ext 0) (.str (bs l)) v2 v3 (.int .i64 (n : Int)) (.int .i64 x) H := by
  refine Exists.elim (loop_inv (n := n - 1) (T := Int) (Inv := fun _ _ => True)
    (f := fun r j x => fun (G : KT5 R) => S.spec_Get.l10 8 G r (.str (bs l)) v2 v3 (.int .i64 (n : Int)) (.int .i64 x) (.int .i64 ((j + 1 : Nat) : Int)) H) (A := fun x => fun G => G (.ext 0) (.str (bs l)) v2 v3 (.int .i64 (n : Int)) (.int .i64 x) H) (s := r0) ?_ ?_ trivial (m := 8) (by omega)) ?_
  · rintro j r x hj _
    have lt : kbin .lss (.int .i64 ((j + 1 : Nat) : Int)) (.int .i64 (n : Int)) = some (.bool true) := by rw [kbin_lss, decide_eq_true (by omega)]
    obtain ⟨x1, e1⟩ := kbin_ex .mul (by simp) x 64
    have e2 := kbyte_nat (k := .i64) (l := l) (i := j + 1) (by omega)
    obtain ⟨y, e3⟩ := krem8 (l[j + 1]'(by omega))
    obtain ⟨z, e4⟩ := kconv64 .u8 y
    obtain ⟨x2, e5⟩ := kbin_ex .add (by simp) x1 z
    have kj := kadd1 (n := j + 1) (by omega)
    refine ⟨x2, funext fun G => ?_, trivial⟩
    simp only [S.spec_Get.l10]
    simp [lt, e1, e2, e3, e4, e5, kj, -kbin_lss, -kbin_mul, -kbin_add, -kconvI_int, -Int.natCast_add]
  · rintro r x _
    funext G
    have lt : kbin .lss (.int .i64 ((n - 1 + 1 : Nat) : Int)) (.int .i64 (n : Int)) = some (.bool false) := by rw [kbin_lss, decide_eq_false (by omega)]
    simp only [S.spec_Get.l10]
    simp [lt, -kbin_lss, -Int.natCast_add]
  rintro x ⟨k1, _⟩
  exact ⟨x, fun G => congrFun k1 G⟩
theorem get_mask (n : Nat) (h1 : 1 < n) (h4 : n ≤ 4) (b : Int) : ∃ x1 x2 x3 x4 : Int, kbin .sub (.int .i64 7) (.int .i64 (n : Int)) = some (.int .i64 x1) ∧ kconvI .u64 (.int .i64 x1) = some (.int .u64 x2) ∧ kbin .shl (.int .i64 1) (.int .u64 x2) = some (.int .i64 x3) ∧ kbin .rem (.int .i64 b) (.int .i64 x3) = some (.int .i64 x4) := by
  have : n = 2 ∨ n = 3 ∨ n = 4 := by omega
  rcases this with rfl | rfl | rfl
  · obtain ⟨y, e⟩ := krem_ex b 32 (by omega)
    exact ⟨5, 5, 32, y, rfl, rfl, rfl, e⟩
  · obtain ⟨y, e⟩ := krem_ex b 16 (by omega)
    exact ⟨4, 4, 16, y, rfl, rfl, rfl, e⟩
  · obtain ⟨y, e⟩ := krem_ex b 8 (by omega)
    exact ⟨3, 3, 8, y, rfl, rfl, rfl, e⟩
theorem spec_Get_spec (l : List UInt8) (h0 : 0 < l.length) (hl : l.length ≤ 1048576) : ∃ (r : Int) (n : Nat), NN fn.spec_Get [.str (bs l)] = some (.tup [.int .i64 r, .int .i64 (n : Int)]) ∧ 1 ≤ n ∧ n ≤ l.length := by
  have q0 : kbin .eql (.str (bs l)) (.str { data := #[] }) = some (.bool false) := by
    rw [kbin_seql, show ({ data := #[] } : ByteArray) = bs [] from rfl, decide_eq_false (fun h => by rw [bs_inj] at h; rw [h] at h0; simp at h0)]
  have b0 := kbyte_bs (l := l) (k := .i64) (i := 0) (by omega) (by omega)
  simp only [Int.toNat_zero] at b0
  obtain ⟨n, e1, h4⟩ := spec_l1Long_spec (l[0]'h0)
  have k1 : kN NN fn.spec_l1Long [.int .u8 ((l[0]'h0).toNat : Int)] [] = some (.int .i64 (n : Int)) := kN_at (by simp) e1
  have kl : klenS (.str (bs l)) = some (.int .i64 (l.length : Int)) := by rw [klenS_str, bs_size]
  by_cases n0 : n = 0
  · have g0 : kbin .eql (.int .i64 (n : Int)) (.int .i64 0) = some (.bool true) := by rw [kbin_eql, decide_eq_true (by omega)]
    refine ⟨65533, 1, ?_, by omega, by omega⟩
    apply S.spec_Get.gives (k := 8)
    simp [S.spec_Get.run, q0, b0, k1, g0, finN_of, -kN_eq, -kbin_eql]
    try rfl
  have g0 : kbin .eql (.int .i64 (n : Int)) (.int .i64 0) = some (.bool false) := by rw [kbin_eql, decide_eq_false (by omega)]
  by_cases n1 : l.length < n
  · have g1 : kbin .gtr (.int .i64 (n : Int)) (.int .i64 (l.length : Int)) = some (.bool true) := by rw [kbin_gtr, decide_eq_true (by omega)]
    refine ⟨65533, 1, ?_, by omega, by omega⟩
    apply S.spec_Get.gives (k := 8)
    simp [S.spec_Get.run, q0, b0, k1, g0, kl, g1, -kN_eq, -kbin_eql, -kbin_gtr]
    try rfl
  have g1 : kbin .gtr (.int .i64 (n : Int)) (.int .i64 (l.length : Int)) = some (.bool false) := by rw [kbin_gtr, decide_eq_false (by omega)]
  have cv : kconvI .i64 (.int .u8 ((l[0]'h0).toNat : Int)) = some (.int .i64 ((l[0]'h0).toNat : Int)) := by rw [kconvI_int, wrap8_64]
  have ks := kslS_bs (l := l) (lo := none) (hi := some (.int .i64 (n : Int))) (mx := none) rfl (a := 0) (b := n) rfl rfl (by omega) (by omega)
  have fin : ∀ r : Int, ∃ (r' : Int) (n' : Nat), (1 ≤ n' ∧ n' ≤ l.length) ∧ ∀ (G : KT2 GV), S.spec_Get.n7 8 G (.str (bs l)) (.int .i64 0) (.int .i64 0) (.int .i64 (n : Int)) (.int .i64 r) [] = G .ret (.int .i64 r') (.int .i64 (n' : Int)) [] := fun r => by
    obtain ⟨p, pe⟩ := spec_Put_spec r
    have k2 : kN NN fn.spec_Put [.int .i64 r] [] = some (.str (bs p)) := kN_at (by simp) pe
    obtain ⟨t, te⟩ := kseq_ex .neq (by simp) (bs p) (bs ((l.take n).drop 0))
    cases t
    · exact ⟨r, n, ⟨by omega, by omega⟩, fun G => by simp only [S.spec_Get.n7, k2, ks, te, Option.bind_some, kcond_bool, cond_false]⟩
    · exact ⟨65533, 1, ⟨by omega, by omega⟩, fun G => by simp only [S.spec_Get.n7, k2, ks, te, Option.bind_some, kcond_bool, cond_true]; rfl⟩
  by_cases n2 : 1 < n
  · have g2 : kbin .gtr (.int .i64 (n : Int)) (.int .i64 1) = some (.bool true) := by rw [kbin_gtr, decide_eq_true (by omega)]
    obtain ⟨x1, x2, x3, x4, m1, m2, m3, m4⟩ := get_mask n n2 h4 ((l[0]'h0).toNat : Int)
    obtain ⟨x, hx⟩ := get_l10 (R := GV) l n (by omega) h4 (by omega) x4 (.int .i64 0) (.int .i64 0) []
    obtain ⟨r', n', hb, hf⟩ := fin x
    refine ⟨r', n', ?_, hb⟩
    apply S.spec_Get.gives (k := 8)
    simp [S.spec_Get.run, q0, b0, k1, g0, kl, g1, cv, g2, m1, m2, m3, m4, hx, hf, -S.spec_Get.n7, -kN_eq, -kbin_eql, -kbin_gtr, -kbin_sub, -kconvI_int]
    try rfl
  · have g2 : kbin .gtr (.int .i64 (n : Int)) (.int .i64 1) = some (.bool false) := by rw [kbin_gtr, decide_eq_false (by omega)]
    obtain ⟨x, hx⟩ := get_l10 (R := GV) l n (by omega) h4 (by omega) ((l[0]'h0).toNat : Int) (.int .i64 0) (.int .i64 0) []
    obtain ⟨r', n', hb, hf⟩ := fin x
    refine ⟨r', n', ?_, hb⟩
    apply S.spec_Get.gives (k := 8)
    simp [S.spec_Get.run, q0, b0, k1, g0, kl, g1, cv, g2, hx, hf, -S.spec_Get.n7, -kN_eq, -kbin_eql, -kbin_gtr, -kbin_sub, -kconvI_int]
    try rfl
theorem runes_l5 {R : Type} (k : Nat) (v2 : GV) : ∀ (m : Nat) (l : List UInt8) (r : Nat) (v : GV) (xs : List Int) (B : List Nat) (H : Heap), l.length ≤ m → m < r → rInt64S H [v] xs B → B.Nodup → xs.length + l.length ≤ 1048576 →
    ∃ xs' v' B' H', rInt64S H' [v'] xs' B' ∧ B'.Nodup ∧ xs'.length ≤ xs.length + l.length ∧ ∀ G : KT2 R, S.spec_Runes.l5 k G r (.str (bs l)) v2 v H = G (.ext 0) v2 v' H'
  | m, l, 0, v, xs, B, H, _, h, _, _, _ => by omega
  | m, l, r + 1, v, xs, B, H, hm, hr, hv, nB, hx => by
    by_cases h0 : 0 < l.length
    case neg =>
      have := List.eq_nil_of_length_eq_zero (l := l) (by omega)
      subst this
      have q0 : kbin .neq (.str (bs [])) (.str { data := #[] }) = some (.bool false) := by rw [kbin_sneq]; rfl
      refine ⟨xs, v, B, H, hv, nB, by omega, fun G => ?_⟩
      simp only [S.spec_Runes.l5]
      simp [q0, -kbin_sneq]
    obtain ⟨m', rfl⟩ : ∃ m', m = m' + 1 := ⟨m - 1, by omega⟩
    have q0 : kbin .neq (.str (bs l)) (.str { data := #[] }) = some (.bool true) := by
      have hne : bs l ≠ ({ data := #[] } : ByteArray) := fun h => by
        have h' : bs l = bs [] := h
        rw [bs_inj] at h'; rw [h'] at h0; simp at h0
      rw [kbin_sneq]
      exact congrArg (fun b => some (GV.bool b)) (decide_eq_true hne)
    obtain ⟨x, n, ge, n1, n2⟩ := spec_Get_spec l h0 (by omega)
    have kg : kN NN fn.spec_Get [.str (bs l)] H = some (.tup [.int .i64 x, .int .i64 (n : Int)]) := kN_at (by simp) ge
    have gI : Good 1 1 ci (RFl ci) := RFl.good (es := 1) (mk := ci) (fun _ => rfl) (fun _ => rfl)
    have hxx : RFl ci (H ++ [[.int .i64 x]]) [.int .i64 x] x [] := ⟨rfl, rfl⟩
    obtain ⟨v', H', B', a1, a2, a3, _⟩ := app_sl gI (by omega) (z := [.int .i64 0]) (b := 8) rfl (by omega) (H := H ++ [[.int .i64 x]]) (goodInt64S.grow hv) nB (by omega) hxx List.nodup_nil (fun i hi => (by cases hi)) (q := H.length) (by simp)
    have ks := kslS_bs (l := l) (lo := some (.int .i64 (n : Int))) (hi := none) (mx := none) rfl (a := n) (b := l.length) rfl rfl (by omega) (by omega)
    rw [List.take_of_length_le (Nat.le_refl _)] at ks
    obtain ⟨xs', v'', B'', H'', c1, c2, c3, c4⟩ := runes_l5 (R := R) k v2 m' (l.drop n) r v' (xs ++ [x]) B' H' (by rw [List.length_drop]; omega) (by omega) a2 a3 (by rw [List.length_append, List.length_drop, List.length_singleton]; omega)
    refine ⟨xs', v'', B'', H'', c1, c2, by rw [List.length_append, List.length_drop, List.length_singleton] at c3; omega, fun G => ?_⟩
    simp only [S.spec_Runes.l5]
    simp [q0, kg, gfill, zeros, kbs_at', a1, ks, c4, -kbin_sneq, -kN_eq]
theorem spec_Runes_spec (l : List UInt8) (hl : l.length ≤ 1000000) (b : Nat) : ∃ (xs : List Int) (v : GV) (bl : List (List GV)), OO fn.spec_Runes [.str (bs l)] b = some (v, bl) ∧ xs.length ≤ l.length ∧ ∀ H T, H.length = b → rInt64S (H ++ bl ++ T) [v] xs (List.range' b bl.length) := by
  obtain ⟨xs, v, B, H, h1, h2, h3, h4⟩ := runes_l5 (R := GV × List (List GV)) (l.length + 1) .nils l.length l (l.length + 1) .emp [] [] [] (Nat.le_refl _) (by omega) (.inl ⟨rfl, rfl, .inl rfl⟩) List.nodup_nil (by simp; omega)
  obtain ⟨v', bl, e1, e2⟩ := goodInt64S.fin (by omega) h1 h2 b
  refine ⟨xs, v', bl, ?_, by simpa using h3, e2⟩
  apply S.spec_Runes.gives (k := l.length + 1)
  simp [S.spec_Runes.run, h4, e1]
theorem runes_new (l : List UInt8) (hl : l.length ≤ 1000000) (H : Heap) : ∃ (xs : List Int) (v : GV) (R : List Nat) (H' : Heap), kF false HH fn.spec_Runes [.str (bs l)] H = some (v, H') ∧ rInt64S H' [v] xs R ∧ R.Nodup ∧ (∀ i ∈ R, H.length ≤ i) ∧ Fr [] H H' ∧ xs.length ≤ l.length := by
  obtain ⟨xs, v, bl, e1, e2, e3⟩ := spec_Runes_spec l hl H.length
  refine ⟨xs, v, _, H ++ bl, by rw [kF_OO]; simp [e1], by simpa using e3 H [] rfl, List.nodup_range', fun i hi => by rw [List.mem_range'_1] at hi; omega, .app, e2⟩
end Go.Proofs.Ytlbnioapepelnaa.G
