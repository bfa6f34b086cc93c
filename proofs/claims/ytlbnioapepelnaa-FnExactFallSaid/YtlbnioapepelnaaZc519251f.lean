/- New memory that is handed over. A loop that keeps something. What these functions do, told for open values, out of the machine with continuations. Pri -/
import Derived.Test.YtlbnioapepelnaaZ1631786c
import Derived.KernelRfl
set_option linter.unusedSimpArgs false
set_option linter.unusedVariables false
set_option maxRecDepth 100000
namespace Go.Proofs.Ytlbnioapepelnaa.G
open Go.RowKit

def Pl : GV → Bool
  | .int _ _ => true
  | .bool _ => true
  | .str _ => true
  | _ => false
theorem own_pl {d : Nat} {h : Heap} {b : Nat} : ∀ {g : GV}, Pl g = true → own (d + 1) h b g = some (g, [], [])
  | .int _ _, _ => rfl
  | .bool _, _ => rfl
  | .str _, _ => rfl
theorem ownL_pl {d : Nat} {h : Heap} : ∀ {cs : List GV} {b : Nat}, cs.all Pl = true → ownL (own (d + 1) h) b cs = some (cs, [], [])
  | [], b, _ => rfl
  | g :: gs, b, hc => by
    rw [List.all_cons, Bool.and_eq_true] at hc
    unfold ownL
    rw [own_pl hc.1]
    simp only [Option.bind_some, List.length_nil, Nat.add_zero]
    rw [ownL_pl hc.2]
    rfl
theorem own_sl_pl {d : Nat} {h : Heap} {b i len cap es : Nat} {cs : List GV} (hh : h[i]? = some cs) (hl : cs.length = cap * es) (hc : len ≤ cap) (hp : (cs.take (len * es)).all Pl = true) :
    own (d + 2) h b (.sl i 0 len cap es) = some (.sl b 0 len len es, [(i, 0, cap * es)], [cs.take (len * es)]) := by
  have e : own (d + 2) h b (.sl i 0 len cap es) = (cellsAt h i (0 + cap * es)).bind fun cs => if len ≤ cap then (ownL (own (d + 1) h) (b + 1) ((cs.drop 0).take (len * es))).bind fun q => some (.sl b 0 len len es, (i, 0, 0 + cap * es) :: q.2.1, q.1 :: q.2.2) else none := rfl
  rw [e]
  simp only [Nat.zero_add, cellsAt_if, hh, Option.bind_some, hl, if_true, List.drop_zero]
  rw [if_pos hc, ownL_pl hp]
  rfl
theorem finO_sl_pl {h : Heap} {b i len cap es : Nat} {cs : List GV} (hh : h[i]? = some cs) (hl : cs.length = cap * es) (hc : len ≤ cap) (hp : (cs.take (len * es)).all Pl = true) :
    finO b (.sl i 0 len cap es) h = some (.sl b 0 len len es, [cs.take (len * es)]) := by
  unfold finO ownOk
  simp only
  rw [own_sl_pl (d := 7) hh hl hc hp]
  rfl
@[simp] theorem finO_emp {h : Heap} {b : Nat} : finO b .emp h = some (.emp, []) := rfl
@[simp] theorem finO_nils {h : Heap} {b : Nat} : finO b .nils h = some (.nils, []) := rfl
theorem all_flat {α : Type} {p : GV → Bool} {mk : α → List GV} (hm : ∀ a, (mk a).all p = true) (xs : List α) : (xs.flatMap mk).all p = true := by
  induction xs with
  | nil => rfl
  | cons x xs ih => rw [List.flatMap_cons, List.all_append, hm, ih]; rfl

theorem gcells_fzl {α : Type} {h : Heap} {t : Bool} {es : Nat} {mk : α → List GV} (hm : ∀ a, (mk a).length = es) {xs : List α} : gcells h es (fzl t es mk xs) = some (xs.length, xs.flatMap mk, []) := by
  cases xs with
  | nil => rfl
  | cons x xs =>
    have hl := len_flat hm (x :: xs)
    simp only [List.length_cons] at hl
    simp only [fzl, gcells]
    simp [hl]

theorem kapp_emp {α : Type} {z : List GV} {es b : Nat} {t : Bool} {mk : α → List GV} {xs : List α} {h : Heap} (hm : ∀ a, (mk a).length = es) (hc : ∀ a, (mk a).all GV.isCell = true) (hz : z.length = es) (hb : b ≤ 1024) (hn : xs.length ≤ 4194304) :
    kapp z es b .emp (fzl t es mk xs) h = if xs.length = 0 then some (.emp, h) else some (.sl h.length 0 xs.length xs.length es, h ++ [xs.flatMap mk]) := by
  have h1 : xs.length * b ≤ 4194304 * 1024 := Nat.mul_le_mul hn hb
  unfold kapp
  rw [gcells_fzl hm]
  simp only [Option.bind_some]
  rw [if_pos ⟨all_flat hc xs, hz, by simp only [maxLen]; omega, by simp only [roomMax]; omega⟩]
theorem kapp_nils {α : Type} {z : List GV} {es b : Nat} {t : Bool} {mk : α → List GV} {xs : List α} {h : Heap} (hm : ∀ a, (mk a).length = es) (hc : ∀ a, (mk a).all GV.isCell = true) (hz : z.length = es) (hb : b ≤ 1024) (hn : xs.length ≤ 4194304) :
    kapp z es b .nils (fzl t es mk xs) h = if xs.length = 0 then some (.nils, h) else some (.sl h.length 0 xs.length xs.length es, h ++ [xs.flatMap mk]) := by
  have h1 : xs.length * b ≤ 4194304 * 1024 := Nat.mul_le_mul hn hb
  unfold kapp
  rw [gcells_fzl hm]
  simp only [Option.bind_some]
  rw [if_pos ⟨all_flat hc xs, hz, by simp only [maxLen]; omega, by simp only [roomMax]; omega⟩]
theorem kapp_sl {α : Type} {z : List GV} {es b i n : Nat} {t : Bool} {mk : α → List GV} {ys xs : List α} {h : Heap} (hm : ∀ a, (mk a).length = es) (hc : ∀ a, (mk a).all GV.isCell = true) (hz : z.length = es) (he : 0 < es) (hb : b ≤ 1024) (hn : ys.length + xs.length ≤ 4194304)
    (hh : h[i]? = some (ys.flatMap mk)) : kapp z es b (.sl i 0 ys.length ys.length es) (fzl t es mk xs) h = some (.sl i 0 (ys ++ xs).length (ys ++ xs).length es, h.set i ((ys ++ xs).flatMap mk)) := by
  have h1 : (ys.length + xs.length) * b ≤ 4194304 * 1024 := Nat.mul_le_mul hn hb
  have h2 : xs.length * b ≤ 4194304 * 1024 := Nat.mul_le_mul (by omega) hb
  have hl := len_flat hm ys
  unfold kapp
  rw [gcells_fzl hm]
  simp only [Option.bind_some]
  rw [if_pos ⟨all_flat hc xs, hz, by simp only [maxLen]; omega, by simp only [roomMax]; omega⟩]
  simp only [Nat.zero_add, cellsAt_if, hh, Option.bind_some, hl, if_true]
  rw [if_pos ⟨trivial, Nat.le_refl _, by simp only [roomMax]; omega, by simp only [maxLen]; omega⟩]
  by_cases h0 : xs.length = 0
  · have : xs = [] := List.eq_nil_of_length_eq_zero h0
    subst this
    have hi : i < h.length := (List.getElem?_eq_some_iff.1 hh).1
    have hx : h[i] = ys.flatMap mk := by
      have := List.getElem?_eq_getElem hi
      rw [hh] at this
      exact (Option.some.inj this).symm
    have e1 : splice (ys.flatMap mk) (ys.length * es) ([] : List GV) = ys.flatMap mk := by simp [splice]
    simp [e1]
  · rw [if_neg (by omega), if_pos ⟨trivial, he⟩, List.length_append, List.flatMap_append, List.take_of_length_le (by omega)]
theorem zeros_drop {z : List GV} {es : Nat} (hz : z.length = es) : ∀ (n k : Nat), k ≤ n → (zeros z n).drop (k * es) = zeros z (n - k)
  | n, 0, _ => by simp
  | 0, k + 1, h => by omega
  | n + 1, k + 1, h => by
    rw [zeros, Nat.add_mul, Nat.one_mul, Nat.add_comm, ← List.drop_drop, ← hz, List.drop_left, hz, zeros_drop hz n k (by omega)]
    congr 1; omega
theorem kapp_fill {α : Type} {z : List GV} {es b i n : Nat} {t : Bool} {mk : α → List GV} {ys xs : List α} {h : Heap} (hm : ∀ a, (mk a).length = es) (hc : ∀ a, (mk a).all GV.isCell = true) (hz : z.length = es) (hb : b ≤ 1024) (hn : n ≤ 4194304) (hf : ys.length + xs.length ≤ n)
    (hh : h[i]? = some (ys.flatMap mk ++ zeros z (n - ys.length))) : kapp z es b (.sl i 0 ys.length n es) (fzl t es mk xs) h = some (.sl i 0 (ys ++ xs).length n es, h.set i ((ys ++ xs).flatMap mk ++ zeros z (n - (ys ++ xs).length))) := by
  have h1 : (ys.length + xs.length) * b ≤ 4194304 * 1024 := Nat.mul_le_mul (by omega) hb
  have h2 : xs.length * b ≤ 4194304 * 1024 := Nat.mul_le_mul (by omega) hb
  have hl := len_flat hm ys
  have hlx := len_flat hm xs
  have hl2 : (ys.flatMap mk ++ zeros z (n - ys.length)).length = n * es := by
    rw [List.length_append, hl, zeros_len', hz, ← Nat.add_mul]; congr 1; omega
  unfold kapp
  rw [gcells_fzl hm]
  simp only [Option.bind_some]
  rw [if_pos ⟨all_flat hc xs, hz, by simp only [maxLen]; omega, by simp only [roomMax]; omega⟩]
  simp only [Nat.zero_add, cellsAt_if, hh, Option.bind_some, hl2, if_true]
  rw [if_pos ⟨trivial, by omega, by simp only [roomMax]; omega, by simp only [maxLen]; omega⟩, if_pos hf, List.length_append, List.flatMap_append]
  have e : splice (ys.flatMap mk ++ zeros z (n - ys.length)) (ys.length * es) (xs.flatMap mk) = ys.flatMap mk ++ xs.flatMap mk ++ zeros z (n - (ys.length + xs.length)) := by
    unfold splice
    rw [List.take_append_of_le_length (by omega), List.take_of_length_le (by omega), hlx, ← hl, ← List.drop_drop, List.drop_left, zeros_drop hz _ _ (by omega)]
    congr 2; omega
  rw [e]
@[simp] theorem kcap_nils : kcap .nils = some (.int .i64 0) := rfl
@[simp] theorem klen_nils : klen .nils = some (.int .i64 0) := rfl
@[simp] theorem finH_eq {v : GV} {h : Heap} : finH v h = some (v, h) := rfl
@[simp] theorem kold_eq {R : Type} {h : Heap} {K : Heap → Option R} : kold h K = K h := rfl
@[simp] theorem krs_eq {R : Type} {rs : List Rec} {K : List Rec → Option R} : krs rs K = K rs := rfl
@[simp] theorem kblk_ptr {i o t : Nat} : kblk (.ptr i o t) = [i] := rfl
@[simp] theorem kblk_sl {i o l c e : Nat} : kblk (.sl i o l c e) = [i] := rfl
@[simp] theorem kblk_elp {α : Type} {t : Bool} {mk : α → List GV} {xs : List α} {j : Nat} : kblk (elp t mk xs j) = [] := rfl
@[simp] theorem kblk_elf {α : Type} {t : Bool} {mk : α → List GV} {xs : List α} {j off : Nat} : kblk (elf t mk xs j off) = [] := rfl
@[simp] theorem kblk_fzl {α : Type} {t : Bool} {es : Nat} {mk : α → List GV} {xs : List α} : kblk (fzl t es mk xs) = [] := by cases xs <;> rfl
@[simp] theorem kblk_nils : kblk .nils = [] := rfl
@[simp] theorem kblk_emp : kblk .emp = [] := rfl
@[simp] theorem touches_same {j n : Nat} {r w : List Nat} {i : Nat} : touches ⟨j, n, n, ⟨r, w⟩⟩ i = w.contains i := by
  simp only [touches]
  cases h : Nat.ble n i && Nat.blt i n with
  | false => simp
  | true =>
    rw [Bool.and_eq_true, Nat.ble_eq, Nat.blt_eq] at h
    omega
@[simp] theorem nbeq {a b : Nat} : Nat.beq a b = decide (a = b) := by
  rw [Bool.eq_iff_iff, Nat.beq_eq]; simp
theorem get_app {α : Type} {t r : List α} {k : Nat} : (t ++ r)[t.length + k]? = r[k]? := by rw [List.getElem?_append_right (by omega)]; congr 1; omega
theorem get_app0 {α : Type} {t r : List α} : (t ++ r)[t.length]? = r[0]? := get_app (k := 0)
theorem set_app {α : Type} {t r : List α} {k : Nat} {x : α} : (t ++ r).set (t.length + k) x = t ++ r.set k x := by rw [List.set_append_right _ _ (by omega)]; congr 2; omega
theorem set_app0 {α : Type} {t r : List α} {x : α} : (t ++ r).set t.length x = t ++ r.set 0 x := set_app (k := 0)

@[simp] theorem kF_OO {f : FuncId} {args : List GV} {h : Heap} : kF false HH f args h = (bors h args).bind fun xs => (OO f xs h.length).bind fun q => some (q.1, h ++ q.2) := by
  unfold kF
  congr 1
  funext xs
  simp only [Bool.false_and, cond_false]
  show _ = ((HH f xs []).bind fun r => ownOk r h.length).bind _
  rw [Option.bind_assoc]
@[simp] theorem bor_emp {d : Nat} {h : Heap} : bor (d + 1) h .emp = some (mt, []) := rfl
@[simp] theorem nble {a b : Nat} : Nat.ble a b = decide (a ≤ b) := by rw [Bool.eq_iff_iff, Nat.ble_eq]; simp
@[simp] theorem nblt {a b : Nat} : Nat.blt a b = decide (a < b) := by rw [Bool.eq_iff_iff, Nat.blt_eq]; simp
@[simp] theorem kborr_mt {h : Heap} : kborr h mt = [] := rfl
@[simp] theorem kblk_mt : kblk mt = [] := rfl
end Go.Proofs.Ytlbnioapepelnaa.G


namespace Go.Proofs.Ytlbnioapepelnaa.G
open Go.RowKit
theorem loop_inv {Q T : Type} {n : Nat} {Inv : Nat → T → Prop} {f : Nat → Nat → T → Q} {A : T → Q} (h1 : ∀ j r s, j < n → Inv j s → ∃ s', f (r + 1) j s = f r (j + 1) s' ∧ Inv (j + 1) s') (h2 : ∀ r s, Inv n s → f (r + 1) n s = A s) {s : T} (h0 : Inv 0 s) {m : Nat} (hm : n < m) : ∃ s', f m 0 s = A s' ∧ Inv n s' := by
  have key : ∀ m j s, n - j < m → j ≤ n → Inv j s → ∃ s', f m j s = A s' ∧ Inv n s' := by
    intro m
    induction m with
    | zero => intro j s h; omega
    | succ m ih =>
      intro j s hm hj hi
      rcases Nat.lt_or_ge j n with h | h
      · obtain ⟨s', a1, a2⟩ := h1 j m s h hi
        obtain ⟨s'', b1, b2⟩ := ih (j + 1) s' (by omega) (by omega) a2
        exact ⟨s'', a1.trans b1, b2⟩
      · have : j = n := by omega
        subst this
        exact ⟨s, h2 m s hi, hi⟩
  exact key m 0 s (by omega) (by omega) h0
end Go.Proofs.Ytlbnioapepelnaa.G

namespace Go.Proofs.Ytlbnioapepelnaa.G
open Go.RowKit
abbrev KT0 (R : Type) : Type := GX → Heap → Option R
abbrev KT1 (R : Type) : Type := GX → GV → Heap → Option R
abbrev KT2 (R : Type) : Type := GX → GV → GV → Heap → Option R
abbrev KT3 (R : Type) : Type := GX → GV → GV → GV → Heap → Option R
abbrev KT4 (R : Type) : Type := GX → GV → GV → GV → GV → Heap → Option R
abbrev KT5 (R : Type) : Type := GX → GV → GV → GV → GV → GV → Heap → Option R
abbrev KT6 (R : Type) : Type := GX → GV → GV → GV → GV → GV → GV → Heap → Option R
abbrev KT7 (R : Type) : Type := GX → GV → GV → GV → GV → GV → GV → GV → Heap → Option R
abbrev KT8 (R : Type) : Type := GX → GV → GV → GV → GV → GV → GV → GV → GV → Heap → Option R
abbrev KT9 (R : Type) : Type := GX → GV → GV → GV → GV → GV → GV → GV → GV → GV → Heap → Option R
noncomputable section
variable {R : Type} (k : Nat) (σ : GS) (h : Heap)
namespace S.impl_in
noncomputable def c0 := bodyOf Try.f105
noncomputable def c1 := cR c0
noncomputable def c2 := cR c1
@[simp] def n2 {R : Type} (k : Nat) (G : KT1 R) (v6 : GV) (h : Heap) := G .ret v6 h
theorem n2_eq (G : KT1 R) : KC k 15 c2 σ h (Q1 G 6) = n2 k G (σ 6) h := by kernel_rfl
noncomputable def c3 := cL c1
noncomputable def o3 : Array Oper := cO c3
@[simp] def g3_2 {R : Type} (k : Nat) (G : KT1 R) (v10 v13 : GV) (h : Heap) := (kpick v10 v13 (.bool false)).bind fun v14 => G .nrm v14 h
theorem g3_2_eq (G : KT1 R) : kgroups PP cfg NN HH 15 o3 [(none, [7, 8])] σ h (fun σ h => G .nrm (σ 6) h) = W2 (g3_2 k G) 10 13 σ h := by kernel_rfl
@[simp] def g3_1 (G : KT1 R) (v0 v2 v10 : GV) (h : Heap) := bif tr true v10 then (kbin .leq v0 v2).bind fun v13 => g3_2 k G v10 v13 h else g3_2 k G v10 .un h
theorem g3_1_eq (G : KT1 R) : kgroups PP cfg NN HH 15 o3 [(some (3, true), [4, 5, 6]), (none, [7, 8])] σ h (fun σ h => G .nrm (σ 6) h) = W3 (g3_1 k G) 0 2 10 σ h := (kgroups_cons (fun σ h => g3_2_eq k σ h G)).trans (by kernel_rfl)
@[simp] def g3_0 (G : KT1 R) (v0 v1 v2 : GV) (h : Heap) := (kbin .leq v1 v0).bind fun v9 => g3_1 k G v0 v2 v9 h
theorem g3_0_eq (G : KT1 R) : kgroups PP cfg NN HH 15 o3 [(none, [0, 1, 2, 3]), (some (3, true), [4, 5, 6]), (none, [7, 8])] σ h (fun σ h => G .nrm (σ 6) h) = W3 (g3_0 k G) 0 1 2 σ h := (kgroups_cons (fun σ h => g3_1_eq k σ h G)).trans (by kernel_rfl)
@[simp] def n3 (G : KT1 R) (v0 v1 v2 : GV) (h : Heap) := g3_0 k G v0 v1 v2 h
theorem n3_eq (G : KT1 R) : KC k 15 c3 σ h (Q1 G 6) = W3 (n3 k G) 0 1 2 σ h := (kregion_eq (id := 1) (draw := false) (ops := o3) (gs := [(none, [0, 1, 2, 3]), (some (3, true), [4, 5, 6]), (none, [7, 8])]) (by kernel_rfl) (by kernel_rfl) (by kernel_rfl)).trans (g3_0_eq k σ h G)
@[simp] def n1 (G : KT1 R) (v0 v1 v2 : GV) (h : Heap) := n3 k (fun x v6 h => kx x (n2 k G v6 h) (G x v6 h)) v0 v1 v2 h
theorem n1_eq (G : KT1 R) : KC k 15 c1 σ h (Q1 G 6) = W3 (n1 k G) 0 1 2 σ h := (kseq (b := c2) rfl (fun σ h => n2_eq k σ h G)).trans (n3_eq k σ h (fun x v6 h => kx x (n2 k G v6 h) (G x v6 h)))
noncomputable def c4 := cL c0
@[simp] def n0 (G : KT1 R) (v0 v1 v2 : GV) (h : Heap) := n1 k G v0 v1 v2 h
theorem n0_eq (G : KT1 R) : KC k 15 c0 σ h (Q1 G 6) = W3 (n0 k G) 0 1 2 σ h := (kseq (a := c4) (b := c1) rfl (fun σ h => n1_eq k σ h G)).trans (by kernel_rfl)
def run {R : Type} (k : Nat) (a0 a1 a2 : GV) (h : Heap) (fin : GV → Heap → Option R) : Option R := n0 k (fun x v6 h => kend x (fin v6 h)) a0 a1 a2 h
theorem gives {k : Nat} {a0 a1 a2 : GV} {v : GV} (e : run k a0 a1 a2 [] finN = some v) : NN fn.impl_in [a0, a1, a2] = some v := nω_of (by kernel_rfl) (((kfun_eq (nt := 15) (c := c0) (show PP.funcs[fn.impl_in]? = some Try.f105 by kernel_rfl) (by kernel_rfl) (by kernel_rfl) (fun x σ h => by cases x <;> kernel_rfl)).trans (n0_eq k _ [] _)).trans e)
end S.impl_in
namespace S.spec_l1In
noncomputable def c0 := bodyOf Try.f119
noncomputable def c1 := cR c0
noncomputable def c2 := cR c1
@[simp] def n2 {R : Type} (k : Nat) (G : KT1 R) (v6 : GV) (h : Heap) := G .ret v6 h
theorem n2_eq (G : KT1 R) : KC k 15 c2 σ h (Q1 G 6) = n2 k G (σ 6) h := by kernel_rfl
noncomputable def c3 := cL c1
noncomputable def o3 : Array Oper := cO c3
@[simp] def g3_2 {R : Type} (k : Nat) (G : KT1 R) (v10 v13 : GV) (h : Heap) := (kpick v10 v13 (.bool false)).bind fun v14 => G .nrm v14 h
theorem g3_2_eq (G : KT1 R) : kgroups PP cfg NN HH 15 o3 [(none, [7, 8])] σ h (fun σ h => G .nrm (σ 6) h) = W2 (g3_2 k G) 10 13 σ h := by kernel_rfl
@[simp] def g3_1 (G : KT1 R) (v0 v2 v10 : GV) (h : Heap) := bif tr true v10 then (kbin .leq v0 v2).bind fun v13 => g3_2 k G v10 v13 h else g3_2 k G v10 .un h
theorem g3_1_eq (G : KT1 R) : kgroups PP cfg NN HH 15 o3 [(some (3, true), [4, 5, 6]), (none, [7, 8])] σ h (fun σ h => G .nrm (σ 6) h) = W3 (g3_1 k G) 0 2 10 σ h := (kgroups_cons (fun σ h => g3_2_eq k σ h G)).trans (by kernel_rfl)
@[simp] def g3_0 (G : KT1 R) (v0 v1 v2 : GV) (h : Heap) := (kbin .geq v0 v1).bind fun v9 => g3_1 k G v0 v2 v9 h
theorem g3_0_eq (G : KT1 R) : kgroups PP cfg NN HH 15 o3 [(none, [0, 1, 2, 3]), (some (3, true), [4, 5, 6]), (none, [7, 8])] σ h (fun σ h => G .nrm (σ 6) h) = W3 (g3_0 k G) 0 1 2 σ h := (kgroups_cons (fun σ h => g3_1_eq k σ h G)).trans (by kernel_rfl)
@[simp] def n3 (G : KT1 R) (v0 v1 v2 : GV) (h : Heap) := g3_0 k G v0 v1 v2 h
theorem n3_eq (G : KT1 R) : KC k 15 c3 σ h (Q1 G 6) = W3 (n3 k G) 0 1 2 σ h := (kregion_eq (id := 1) (draw := false) (ops := o3) (gs := [(none, [0, 1, 2, 3]), (some (3, true), [4, 5, 6]), (none, [7, 8])]) (by kernel_rfl) (by kernel_rfl) (by kernel_rfl)).trans (g3_0_eq k σ h G)
@[simp] def n1 (G : KT1 R) (v0 v1 v2 : GV) (h : Heap) := n3 k (fun x v6 h => kx x (n2 k G v6 h) (G x v6 h)) v0 v1 v2 h
theorem n1_eq (G : KT1 R) : KC k 15 c1 σ h (Q1 G 6) = W3 (n1 k G) 0 1 2 σ h := (kseq (b := c2) rfl (fun σ h => n2_eq k σ h G)).trans (n3_eq k σ h (fun x v6 h => kx x (n2 k G v6 h) (G x v6 h)))
noncomputable def c4 := cL c0
@[simp] def n0 (G : KT1 R) (v0 v1 v2 : GV) (h : Heap) := n1 k G v0 v1 v2 h
theorem n0_eq (G : KT1 R) : KC k 15 c0 σ h (Q1 G 6) = W3 (n0 k G) 0 1 2 σ h := (kseq (a := c4) (b := c1) rfl (fun σ h => n1_eq k σ h G)).trans (by kernel_rfl)
def run {R : Type} (k : Nat) (a0 a1 a2 : GV) (h : Heap) (fin : GV → Heap → Option R) : Option R := n0 k (fun x v6 h => kend x (fin v6 h)) a0 a1 a2 h
theorem gives {k : Nat} {a0 a1 a2 : GV} {v : GV} (e : run k a0 a1 a2 [] finN = some v) : NN fn.spec_l1In [a0, a1, a2] = some v := nω_of (by kernel_rfl) (((kfun_eq (nt := 15) (c := c0) (show PP.funcs[fn.spec_l1In]? = some Try.f119 by kernel_rfl) (by kernel_rfl) (by kernel_rfl) (fun x σ h => by cases x <;> kernel_rfl)).trans (n0_eq k _ [] _)).trans e)
end S.spec_l1In
end
end Go.Proofs.Ytlbnioapepelnaa.G
