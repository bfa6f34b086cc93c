/- Values of Go as data: what the machine's words do on them. -/
import Derived.Test.YtklhdbkaejbajaaDoorCfg
namespace Go.Proofs.YtklhdbkaejbajaaDoor.G
open Go.RowKit
set_option linter.unusedVariables false
set_option linter.unusedSimpArgs false

/-- An element of a slice: place j of what a list is told by. -/
def elp {α : Type} (t : Bool) (mk : α → List GV) (xs : List α) (j : Nat) : GV := .fp t ((xs.drop j).flatMap mk)
/-- A field of it. -/
def elf {α : Type} (t : Bool) (mk : α → List GV) (xs : List α) (j off : Nat) : GV := .fp t (((xs.drop j).flatMap mk).drop off)

abbrev ci (n : Int) : List GV := [.int .i64 n]
abbrev cs (s : ByteArray) : List GV := [.str s]

theorem drop_flat {α : Type} {mk : α → List GV} {es : Nat} (hm : ∀ a, (mk a).length = es) : ∀ (xs : List α) (j : Nat), (xs.flatMap mk).drop (j * es) = (xs.drop j).flatMap mk
  | xs, 0 => by simp
  | [], j + 1 => by simp
  | x :: xs, j + 1 => by
    rw [List.flatMap_cons, List.drop_succ_cons, ← drop_flat hm xs j, List.drop_append, hm]
    rw [List.drop_of_length_le (by rw [hm, Nat.add_mul]; omega)]
    rw [show (j + 1) * es - es = j * es by rw [Nat.add_mul]; omega]
    rfl
theorem len_flat {α : Type} {mk : α → List GV} {es : Nat} (hm : ∀ a, (mk a).length = es) (xs : List α) : (xs.flatMap mk).length = xs.length * es := flat_len hm xs

theorem fzl_ne {α : Type} {t : Bool} {es : Nat} {mk : α → List GV} {xs : List α} (h : 0 < xs.length) : fzl t es mk xs = .fz t xs.length es (xs.flatMap mk) := by
  cases xs with
  | nil => simp at h
  | cons x xs => rfl
@[simp] theorem fzl_nil {α : Type} {t : Bool} {es : Nat} {mk : α → List GV} : fzl t es mk [] = mt := rfl

@[simp] theorem klen_fzl {α : Type} {t : Bool} {es : Nat} {mk : α → List GV} {xs : List α} : klen (fzl t es mk xs) = some (.int .i64 xs.length) := by
  cases xs <;> rfl
@[simp] theorem klen_mt : klen mt = some (.int .i64 0) := rfl

theorem kia_fzl {α : Type} {t : Bool} {es : Nat} {mk : α → List GV} (hm : ∀ a, (mk a).length = es) {xs : List α} {k : IntKind} {i : Int} :
    kia es (fzl t es mk xs) (.int k i) = if 0 ≤ i ∧ i < xs.length then some (elp t mk xs i.toNat) else none := by
  cases xs with
  | nil =>
    have h1 : ¬(es = 0 ∧ 0 ≤ i ∧ i < (0 : Nat)) := by omega
    have h2 : ¬(0 ≤ i ∧ i < (([] : List α).length : Nat)) := by simp
    rw [if_neg h2]
    simp only [fzl, mt, kia, kint, Option.bind_some]
    rw [if_neg h1]
  | cons x xs =>
    rw [fzl_ne (by simp)]
    simp only [kia, kint, Option.bind_some, true_and]
    rw [drop_flat hm]
    rfl

@[simp] theorem kload1_ci {h : Heap} {t : Bool} {xs : List Int} {j : Nat} : kload1 h (elp t ci xs j) = xs[j]?.map (GV.int .i64) := by
  unfold kload1 elp kread
  cases hx : xs.drop j with
  | nil =>
    have : xs.length ≤ j := by simpa using hx
    simp [List.getElem?_eq_none this]
  | cons y ys =>
    have : xs[j]? = some y := by
      have := congrArg (·[0]?) hx
      simpa using this
    simp [this, one]
@[simp] theorem kload1_cs {h : Heap} {t : Bool} {xs : List ByteArray} {j : Nat} : kload1 h (elp t cs xs j) = xs[j]?.map GV.str := by
  unfold kload1 elp kread
  cases hx : xs.drop j with
  | nil =>
    have : xs.length ≤ j := by simpa using hx
    simp [List.getElem?_eq_none this]
  | cons y ys =>
    have : xs[j]? = some y := by
      have := congrArg (·[0]?) hx
      simpa using this
    simp [this, one]

/-! The machine's words. -/
attribute [simp] kx.eq_1 kx.eq_2
@[simp] theorem kx_nrm {R : Type} {a b : Option R} : kx .nrm a b = a := rfl
@[simp] theorem kx_ret {R : Type} {a b : Option R} : kx .ret a b = b := rfl
@[simp] theorem kx_ext {R : Type} {i : Nat} {a b : Option R} : kx (.ext i) a b = b := rfl
@[simp] theorem kb_nrm {R : Type} {i : Nat} {K : GX → Option R} : kb i .nrm K = K .nrm := rfl
@[simp] theorem kb_ret {R : Type} {i : Nat} {K : GX → Option R} : kb i .ret K = K .ret := rfl
@[simp] theorem kb_ext {R : Type} {i j : Nat} {K : GX → Option R} : kb i (.ext j) K = bif Nat.beq j i then K .nrm else K (.ext j) := rfl
@[simp] theorem kend_nrm {R : Type} {a : Option R} : kend .nrm a = a := rfl
@[simp] theorem kend_ret {R : Type} {a : Option R} : kend .ret a = a := rfl
@[simp] theorem kend_ext {R : Type} {i : Nat} {a : Option R} : kend (.ext i) a = none := rfl
@[simp] theorem kcond_bool {R : Type} {b : Bool} {x y : Option R} : kcond (.bool b) x y = bif b then x else y := rfl
@[simp] theorem tr_bool {w b : Bool} : tr w (.bool b) = (b == w) := rfl
@[simp] theorem tr_un {w : Bool} : tr w .un = false := rfl
@[simp] theorem kpick_bool {b : Bool} {x y : GV} : kpick (.bool b) x y = some (bif b then x else y) := rfl
@[simp] theorem kun_not {b : Bool} : kun .not (.bool b) = some (.bool !b) := rfl
@[simp] theorem kun_neg {k : IntKind} {n : Int} : kun .neg (.int k n) = some (.int k (k.wrap (0 - n))) := rfl
@[simp] theorem kr_mk {R : Type} {v : GV} {h : Heap} {K : GV → Heap → Option R} : kr (v, h) K = K v h := rfl
@[simp] theorem kfa_ptr {off i o tot : Nat} : kfa off (.ptr i o tot) = some (.ptr i (o + off) tot) := rfl
@[simp] theorem kfa_elp {α : Type} {t : Bool} {mk : α → List GV} {xs : List α} {j off : Nat} : kfa off (elp t mk xs j) = some (elf t mk xs j off) := rfl
@[simp] theorem kcs_agg {cs : List GV} : kcs (.agg cs) = some cs := rfl
@[simp] theorem kxt_tup {vs : List GV} {i : Nat} : kxt i (.tup vs) = vs[i]? := rfl
@[simp] theorem kint_int {k : IntKind} {n : Int} : kint (.int k n) = some n := rfl
@[simp] theorem kstr_str {s : ByteArray} : kstr (.str s) = some s := rfl
@[simp] theorem klenS_str {s : ByteArray} : klenS (.str s) = some (.int .i64 s.size) := rfl
@[simp] theorem gmin_int {k k' : IntKind} {x y : Int} : gmin (.int k x) (.int k' y) = some (.int k (if y < x then y else x)) := rfl
@[simp] theorem gmax_int {k k' : IntKind} {x y : Int} : gmax (.int k x) (.int k' y) = some (.int k (if y > x then y else x)) := rfl
@[simp] theorem kconvI_int {k k' : IntKind} {n : Int} : kconvI k (.int k' n) = some (.int k (k.wrap n)) := rfl

@[simp] theorem kbin_add {k : IntKind} {a b : Int} : kbin .add (.int k a) (.int k b) = some (.int k (k.wrap (a + b))) := by simp [kbin]
@[simp] theorem kbin_sub {k : IntKind} {a b : Int} : kbin .sub (.int k a) (.int k b) = some (.int k (k.wrap (a - b))) := by simp [kbin]
@[simp] theorem kbin_mul {k : IntKind} {a b : Int} : kbin .mul (.int k a) (.int k b) = some (.int k (k.wrap (a * b))) := by simp [kbin]
@[simp] theorem kbin_eql {k : IntKind} {a b : Int} : kbin .eql (.int k a) (.int k b) = some (.bool (decide (a = b))) := by
  simp only [kbin, if_true, Option.some.injEq, GV.bool.injEq]; rw [Bool.eq_iff_iff]; simp
@[simp] theorem kbin_neq {k : IntKind} {a b : Int} : kbin .neq (.int k a) (.int k b) = some (.bool (decide (a ≠ b))) := by
  simp only [kbin, if_true, Option.some.injEq, GV.bool.injEq]; rw [Bool.eq_iff_iff]; simp
@[simp] theorem kbin_lss {k : IntKind} {a b : Int} : kbin .lss (.int k a) (.int k b) = some (.bool (decide (a < b))) := by simp [kbin, ilt_eq]
@[simp] theorem kbin_leq {k : IntKind} {a b : Int} : kbin .leq (.int k a) (.int k b) = some (.bool (decide (a ≤ b))) := by
  simp only [kbin, if_true, Option.some.injEq, GV.bool.injEq, ilt_eq]; rw [Bool.eq_iff_iff]; simp
@[simp] theorem kbin_gtr {k : IntKind} {a b : Int} : kbin .gtr (.int k a) (.int k b) = some (.bool (decide (b < a))) := by simp [kbin, ilt_eq]
@[simp] theorem kbin_geq {k : IntKind} {a b : Int} : kbin .geq (.int k a) (.int k b) = some (.bool (decide (b ≤ a))) := by
  simp only [kbin, if_true, Option.some.injEq, GV.bool.injEq, ilt_eq]; rw [Bool.eq_iff_iff]; simp
theorem kbin_quo {k : IntKind} {a b : Int} (h : b ≠ 0) : kbin .quo (.int k a) (.int k b) = some (.int k (k.wrap (a.tdiv b))) := by simp [kbin, h]
theorem kbin_rem {k : IntKind} {a b : Int} (h : b ≠ 0) : kbin .rem (.int k a) (.int k b) = some (.int k (a.tmod b)) := by simp [kbin, h]
@[simp] theorem kbin_seql {a b : ByteArray} : kbin .eql (.str a) (.str b) = some (.bool (decide (a = b))) := by
  simp only [kbin, Option.some.injEq, GV.bool.injEq]; rw [Bool.eq_iff_iff]
  simp only [beq_iff_eq, decide_eq_true_eq]
  constructor
  · intro h; exact ByteArray.ext (by rw [ByteArray.toList_eq, ByteArray.toList_eq] at h; exact Array.toList_inj.1 h)
  · rintro rfl; rfl
@[simp] theorem kbin_sneq {a b : ByteArray} : kbin .neq (.str a) (.str b) = some (.bool (decide (a ≠ b))) := by
  have := @kbin_seql a b
  simp only [kbin, Option.some.injEq, GV.bool.injEq] at this ⊢
  rw [this]
  simp
theorem kbin_sadd {a b : ByteArray} (h : a.size + b.size ≤ maxLen) : kbin .add (.str a) (.str b) = some (.str (a ++ b)) := by simp [kbin, h]
@[simp] theorem keqB_eql {a b : Bool} : keqB .eql (.bool a) (.bool b) = some (.bool (a == b)) := rfl
@[simp] theorem keqB_neq {a b : Bool} : keqB .neq (.bool a) (.bool b) = some (.bool !(a == b)) := rfl

/-- Numbers that fit. -/
theorem wrap_id {n : Int} (h : -9223372036854775808 ≤ n) (h' : n ≤ 9223372036854775807) : IntKind.i64.wrap n = n := by
  simp [IntKind.wrap, IntKind.bits, IntKind.signed]
  omega

/-! Memory. -/
@[simp] theorem kalloc_eq {R : Type} {z : List GV} {h : Heap} {K : GV → Heap → Option R} : kalloc z h K = K (.ptr h.length 0 z.length) (h ++ [z]) := rfl
@[simp] theorem kbox_agg {R : Type} {cs : List GV} {h : Heap} {K : GV → Heap → Option R} : kbox (.agg cs) h K = K (.ptr h.length 0 cs.length) (h ++ [cs]) := rfl
@[simp] theorem kagg_eq {R : Type} {cs : List GV} {h : Heap} {K : GV → Heap → Option R} : kagg cs h K = K (.agg cs) h := rfl
@[simp] theorem kst_eq {R : Type} {s : ByteArray} {K : GV → Option R} : kst s K = K (.str s) := rfl

@[simp] theorem kload1_ptr {h : Heap} {i off tot : Nat} : kload1 h (.ptr i off tot) = (cellsAt h i tot).bind fun cs => cs[off]? := by
  unfold kload1 kread
  simp only
  cases cellsAt h i tot with
  | none => rfl
  | some cs =>
    simp only [Option.bind_some]
    rcases Nat.lt_or_ge off cs.length with h1 | h1
    · rw [if_pos (by omega)]
      simp only [Option.bind_some]
      rw [List.drop_eq_getElem_cons h1, List.take_succ_cons, List.take_zero, List.getElem?_eq_getElem h1]
      rfl
    · rw [if_neg (by omega), List.getElem?_eq_none h1]; rfl
@[simp] theorem kloadA_ptr {h : Heap} {n i off tot : Nat} : kloadA n h (.ptr i off tot) = (cellsAt h i tot).bind fun cs => if off + n ≤ cs.length then some (.agg ((cs.drop off).take n)) else none := by
  unfold kloadA kread
  simp only
  cases cellsAt h i tot with
  | none => rfl
  | some cs =>
    simp only [Option.bind_some]
    by_cases h1 : off + n ≤ cs.length <;> simp [h1]
@[simp] theorem cellsAt_if {h : Heap} {i tot : Nat} : cellsAt h i tot = (h[i]?).bind fun cs => if cs.length = tot then some cs else none := by
  unfold cellsAt
  cases h[i]? with
  | none => rfl
  | some cs =>
    simp only [Option.bind_some]
    by_cases h1 : cs.length = tot
    · simp [h1]
    · have : Nat.beq cs.length tot = false := by
        cases hb : Nat.beq cs.length tot with
        | false => rfl
        | true => exact absurd (Nat.eq_of_beq_eq_true hb) h1
      simp [this, h1]
@[simp] theorem kstore_ptr {h : Heap} {n i off tot : Nat} {v : GV} : kstore n h (.ptr i off tot) v = if v.cells.length = n ∧ v.cells.all GV.isCell = true then (cellsAt h i tot).bind fun cs => if off + n ≤ cs.length then some (h.set i (splice cs off v.cells)) else none else none := rfl
@[simp] theorem cells_int {k : IntKind} {n : Int} : (GV.int k n).cells = [.int k n] := rfl
@[simp] theorem cells_bool {n : Bool} : (GV.bool n).cells = [.bool n] := rfl
@[simp] theorem cells_str {n : ByteArray} : (GV.str n).cells = [.str n] := rfl
@[simp] theorem cells_agg {n : List GV} : (GV.agg n).cells = n := rfl
@[simp] theorem cells_nils : GV.nils.cells = [.nils] := rfl
@[simp] theorem cells_emp : GV.emp.cells = [.emp] := rfl
@[simp] theorem cells_mt : mt.cells = [mt] := rfl
@[simp] theorem cells_ptr {a b c : Nat} : (GV.ptr a b c).cells = [.ptr a b c] := rfl
@[simp] theorem cells_sl {a b c d e : Nat} : (GV.sl a b c d e).cells = [.sl a b c d e] := rfl
@[simp] theorem cells_fzl {α : Type} {t : Bool} {es : Nat} {mk : α → List GV} {xs : List α} : (fzl t es mk xs).cells = [fzl t es mk xs] := by cases xs <;> rfl
@[simp] theorem isCell_int {k : IntKind} {n : Int} : (GV.int k n).isCell = true := rfl
@[simp] theorem isCell_bool {n : Bool} : (GV.bool n).isCell = true := rfl
@[simp] theorem isCell_str {n : ByteArray} : (GV.str n).isCell = true := rfl
@[simp] theorem isCell_nils : GV.nils.isCell = true := rfl
@[simp] theorem isCell_emp : GV.emp.isCell = true := rfl
@[simp] theorem isCell_mt : mt.isCell = true := rfl
@[simp] theorem isCell_ptr {a b c : Nat} : (GV.ptr a b c).isCell = true := rfl
@[simp] theorem isCell_sl {a b c d e : Nat} : (GV.sl a b c d e).isCell = true := rfl
@[simp] theorem isCell_fzl {α : Type} {t : Bool} {es : Nat} {mk : α → List GV} {xs : List α} : (fzl t es mk xs).isCell = true := by cases xs <;> rfl
attribute [simp] splice
@[simp] theorem kN_eq {N : NCall} {f : FuncId} {args : List GV} {h : Heap} : kN N f args h = (bors h args).bind fun xs => N f xs := rfl

/-- A function that keeps nothing: its answer does not hang on the heap. -/
@[simp] theorem finN_int {k : IntKind} {n : Int} {h : Heap} : finN (.int k n) h = some (.int k n) := rfl
@[simp] theorem finN_bool {b : Bool} {h : Heap} : finN (.bool b) h = some (.bool b) := rfl
@[simp] theorem finN_str {b : ByteArray} {h : Heap} : finN (.str b) h = some (.str b) := rfl

@[simp] theorem bors_nil {h : Heap} : bors h [] = some [] := rfl
@[simp] theorem bors_cons {h : Heap} {g : GV} {gs : List GV} : bors h (g :: gs) = (bor 9 h g).bind fun x => (bors h gs).bind fun xs => some (x.1 :: xs) := rfl
@[simp] theorem bor_int {d : Nat} {h : Heap} {k : IntKind} {n : Int} : bor (d + 1) h (.int k n) = some (.int k n, []) := rfl
@[simp] theorem bor_bool {d : Nat} {h : Heap} {n : Bool} : bor (d + 1) h (.bool n) = some (.bool n, []) := rfl
@[simp] theorem bor_str {d : Nat} {h : Heap} {n : ByteArray} : bor (d + 1) h (.str n) = some (.str n, []) := rfl
@[simp] theorem bor_mt {d : Nat} {h : Heap} : bor (d + 1) h mt = some (mt, []) := rfl
@[simp] theorem lend_int {d : Nat} {k : IntKind} {n : Int} : lend d (.int k n) = .int k n := by cases d <;> rfl
@[simp] theorem lend_bool {d : Nat} {n : Bool} : lend d (.bool n) = .bool n := by cases d <;> rfl
@[simp] theorem lend_str {d : Nat} {n : ByteArray} : lend d (.str n) = .str n := by cases d <;> rfl
theorem lend_map {α : Type} {d : Nat} {mk mk' : α → List GV} (hm : ∀ a, (mk a).map (lend d) = mk' a) (xs : List α) : (xs.flatMap mk).map (lend d) = xs.flatMap mk' := by
  induction xs with
  | nil => rfl
  | cons x xs ih => rw [List.flatMap_cons, List.flatMap_cons, List.map_append, ih, hm]
/-- Lending a slice whose elements are told in two ways. -/
theorem lend_fzl {α : Type} {d es : Nat} {t : Bool} {mk mk' : α → List GV} (hm : ∀ a, (mk a).map (lend d) = mk' a) (xs : List α) : lend (d + 1) (fzl t es mk xs) = fzl true es mk' xs := by
  cases xs with
  | nil => rfl
  | cons x xs =>
    simp only [fzl, lend]
    rw [lend_map hm]
theorem bor_fzl {α : Type} {d es : Nat} {h : Heap} {t : Bool} {mk mk' : α → List GV} (hm : ∀ a, (mk a).map (lend d) = mk' a) (xs : List α) : bor (d + 1) h (fzl t es mk xs) = some (fzl true es mk' xs, []) := by
  rw [← lend_fzl (t := t) (es := es) hm xs]
  cases xs <;> rfl
@[simp] theorem bor_ci {d : Nat} {h : Heap} {t : Bool} {xs : List Int} : bor (d + 2) h (fzl t 1 ci xs) = some (fzl true 1 ci xs, []) := bor_fzl (fun a => rfl) xs
@[simp] theorem bor_cs {d : Nat} {h : Heap} {t : Bool} {xs : List ByteArray} : bor (d + 2) h (fzl t 1 cs xs) = some (fzl true 1 cs xs, []) := bor_fzl (fun a => rfl) xs
@[simp] theorem kia_ci {t : Bool} {xs : List Int} {k : IntKind} {i : Int} : kia 1 (fzl t 1 ci xs) (.int k i) = if 0 ≤ i ∧ i < xs.length then some (elp t ci xs i.toNat) else none := kia_fzl (es := 1) (fun _ => rfl)
@[simp] theorem kia_cs {t : Bool} {xs : List ByteArray} {k : IntKind} {i : Int} : kia 1 (fzl t 1 cs xs) (.int k i) = if 0 ≤ i ∧ i < xs.length then some (elp t cs xs i.toNat) else none := kia_fzl (es := 1) (fun _ => rfl)

end Go.Proofs.YtklhdbkaejbajaaDoor.G
