/- Texts as lists of bytes: what the machine's words do on them. -/
import Derived.Test.YtklhdbkaejbajaaDoorT5
import Derived.Test.YtklhdbkaejbajaaDoorTDec
namespace Go.Proofs.YtklhdbkaejbajaaDoor.G
open Go.RowKit
set_option linter.unusedVariables false
set_option linter.unusedSimpArgs false

/-- A text of these bytes. -/
abbrev bs (l : List UInt8) : ByteArray := ⟨l.toArray⟩
/-- A byte in memory. -/
abbrev cy (b : UInt8) : List GV := [.int .u8 b.toNat]
theorem bs_eta (s : ByteArray) : s = bs s.data.toList := rfl
@[simp] theorem bs_size (l : List UInt8) : (bs l).size = l.length := by simp [bs, ByteArray.size]
@[simp] theorem bs_data (l : List UInt8) : (bs l).data.toList = l := rfl
@[simp] theorem bs_app (a b : List UInt8) : bs a ++ bs b = bs (a ++ b) := by
  apply ByteArray.ext
  simp [bs]
theorem bs_inj {a b : List UInt8} : bs a = bs b ↔ a = b := by
  constructor
  · intro h
    have := congrArg (fun s : ByteArray => s.data.toList) h
    simpa using this
  · rintro rfl; rfl
theorem kadd_bs {a b : List UInt8} (h : a.length + b.length ≤ maxLen) : kbin .add (.str (bs a)) (.str (bs b)) = some (.str (bs (a ++ b))) := by
  rw [kbin_sadd (by simpa using h), bs_app]
theorem kbyte_bs {l : List UInt8} {k : IntKind} {i : Int} (h0 : 0 ≤ i) (h1 : i < l.length) : kbyte (.str (bs l)) (.int k i) = some (.int .u8 ((l[i.toNat]'(by omega)).toNat : Int)) := by
  have h2 : i.toNat < (bs l).size := by rw [bs_size]; omega
  simp only [kbyte, kstr_str, kint_int, Option.bind_some]
  rw [dif_pos h2, if_pos h0]
  rfl
theorem kbyte_nat {l : List UInt8} {k : IntKind} {i : Nat} (h1 : i < l.length) : kbyte (.str (bs l)) (.int k (i : Int)) = some (.int .u8 (l[i].toNat : Int)) := by
  rw [kbyte_bs (by omega) (by omega)]
  simp
theorem extract_bs (l : List UInt8) (a b : Nat) : (bs l).extract a b = bs ((l.take b).drop a) := by
  apply ByteArray.ext
  apply Array.toList_inj.1
  simp [bs]
  try rw [List.drop_take]
/-- A part of a text. -/
theorem kslS_bs {l : List UInt8} {lo hi mx : Option GV} (hm : mx = none) {a b : Nat} (h1 : gopt 0 lo = some (a : Int)) (h2 : gopt (l.length : Nat) hi = some (b : Int)) (hab : a ≤ b) (hb : b ≤ l.length) : kslS (.str (bs l)) lo hi mx = some (.str (bs ((l.take b).drop a))) := by
  subst hm
  have h2' : gopt ((bs l).size : Nat) hi = some (b : Int) := by rw [bs_size]; exact h2
  simp only [kslS, kstr_str, Option.bind_some, kslice, gslice, h1, Option.bind_eq_bind, h2', Option.isSome_none, Bool.false_eq_true, false_and, if_false]
  rw [if_pos ⟨by omega, by omega, by rw [bs_size]; omega⟩]
  simp [extract_bs]
@[simp] theorem gopt_none {d : Int} : gopt d none = some d := rfl
@[simp] theorem gopt_some {d n : Int} {k : IntKind} : gopt d (some (.int k n)) = some n := rfl
theorem kbytes_bs (l : List UInt8) : kbytes (bs l) = l.flatMap cy := by
  unfold kbytes
  rw [ByteArray.toList_eq]
  simp only [bs_data]
  induction l with
  | nil => rfl
  | cons x l ih => rw [List.map_cons, List.flatMap_cons, ih]; rfl
theorem gbytes : ∀ (l : List UInt8), (l.flatMap cy).mapM gbyte = some (l.map fun b => (b.toNat : Int))
  | [] => rfl
  | x :: l => by
    rw [List.flatMap_cons, List.cons_append, List.nil_append, List.mapM_cons, gbytes l]
    rfl
/-- Bytes in memory as a text. -/
theorem kbstr_at {l rest : List UInt8} {h : Heap} {b c n : Nat} {R : List GV} (hh : h[b]? = some (l.flatMap cy ++ R)) (hc : l.length + R.length = c) (hn : n = l.length) : kbstr h (.sl b 0 n c 1) = some (.str (bs l)) := by
  subst hn
  have hl := len_flat (mk := cy) (es := 1) (fun _ => rfl) l
  have hg : gcells h 1 (.sl b 0 l.length c 1) = some (l.length, l.flatMap cy, [b]) := by
    simp only [gcells, Option.bind_eq_bind, cellsAt_if, hh, Option.bind_some]
    rw [if_pos (by rw [List.length_append, hl]; omega)]
    simp only [Option.bind_some, true_and, List.drop_zero]
    rw [if_pos (by omega), List.take_append_of_le_length (by omega), List.take_of_length_le (by omega)]
  have e : kbstr h (.sl b 0 l.length c 1) = (gcells h 1 (.sl b 0 l.length c 1)).bind fun (n, cs, _) => (cs.mapM gbyte).bind fun ns => if ns.length = n then some (.str ⟨(ns.map fun n => UInt8.ofNat n.toNat).toArray⟩) else none := rfl
  rw [e, hg]
  simp only [Option.bind_some, gbytes, List.length_map, if_true, List.map_map]
  have : l.map ((fun n : Int => UInt8.ofNat n.toNat) ∘ fun b : UInt8 => (b.toNat : Int)) = l := by
    conv => rhs; rw [← List.map_id l]
    apply List.map_congr_left
    intro x _
    simp
  rw [this]
@[simp] theorem kbstr_emp {h : Heap} : kbstr h .emp = some (.str (bs [])) := rfl
@[simp] theorem kbstr_nils {h : Heap} : kbstr h .nils = some (.str (bs [])) := rfl
@[simp] theorem kby_eq {R : Type} {s : ByteArray} {h : Heap} {K : GV → Heap → Option R} : kby s h K = K (.sl h.length 0 s.size s.size 1) (h ++ [kbytes s]) := rfl
theorem kbs_eq {Q : Type} {len es : Nat} {c : List GV} {H : Heap} {K : GV → Heap → Option Q} : kbs len es c H K = K (.sl H.length 0 len len es) (H ++ [c]) := rfl
theorem wrap8 {n : Int} (h : 0 ≤ n) (h' : n ≤ 255) : IntKind.u8.wrap n = n := by
  simp [IntKind.wrap, IntKind.bits, IntKind.signed]
  omega
theorem u8_lt (b : UInt8) : (b.toNat : Int) ≤ 255 := by have := b.toNat_lt; omega
theorem u8_of {n : Nat} (h : n ≤ 255) : ((UInt8.ofNat n).toNat : Int) = n := by
  have : (UInt8.ofNat n).toNat = n := by simp [UInt8.toNat_ofNat']; omega
  rw [this]
end Go.Proofs.YtklhdbkaejbajaaDoor.G
