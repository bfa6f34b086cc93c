/- Arguments that can be read as data, told to this machine: for each kind of value one lemma. More calls, more rounds: what was answered is answered sti -/
import Derived.Test.YtlbnioapepelnaaZ00ff35a8
import Derived.Deep.Slices
import Derived.ChangeOld
import Derived.ChangeArms
import Derived.Carry
import Derived.ShutString
import Derived.ProofKit
set_option linter.unusedSimpArgs false
set_option linter.unusedVariables false
namespace Go.Proofs.Ytlbnioapepelnaa.G
open Go.RowKit Go.ChangeShapes Go.WideShapes Go.Deep

abbrev Told (w : World) (gs : List GV) (cs : List Value) : Prop := VRs w E0 (fun _ => False) gs (fun c => c < w.heap.size) cs

structure Tells {α : Type} (P : Program) (t : TypeId) (mk : α → List GV) (I : α → Prop) : Prop where
  len : ∀ a, (mk a).length = P.cellsOf t
  op : ∀ {H : Type} (enc : TypeId × Value → H) (w : World) (fuel : Nat) (cs : List Value) (x : DataW H × List MemPlace),
    DataW.trod enc P w 0 (fun _ => true) true fuel t cs = some x → ∃ a : α, Told w (mk a) cs ∧ I a

theorem tells_int {P : Program} {t : TypeId} {k : IntKind} (ht : P.underlying t = some (.int k)) (hs : P.cellsOf t = 1) : Tells P t (fun n => [GV.int k n]) (fun n => (Lit.int k n).wf = true) :=
  ⟨fun _ => hs.symm, fun enc w fuel cs x hx => by
    obtain ⟨n, rfl, _, hw⟩ := DataW.trod_int ht hx
    exact ⟨n, ⟨_, _, rfl, rfl, rfl⟩, hw⟩⟩
theorem flat_len {α : Type} {f : α → List GV} {sz : Nat} (hf : ∀ a, (f a).length = sz) : ∀ xs : List α, (xs.flatMap f).length = xs.length * sz
  | [] => by simp
  | x :: xs => by rw [List.flatMap_cons, List.length_append, hf, flat_len hf xs, List.length_cons, Nat.add_mul]; omega
theorem flat_get {α : Type} {f : α → List GV} {sz : Nat} (hf : ∀ a, (f a).length = sz) : ∀ (xs : List α) (i r : Nat) (x : α), xs[i]? = some x → r < sz → (xs.flatMap f)[i * sz + r]? = (f x)[r]?
  | [], i, r, x, h, _ => by simp at h
  | y :: xs, 0, r, x, h, hr => by
    simp at h
    subst h
    rw [List.flatMap_cons, Nat.zero_mul, Nat.zero_add, List.getElem?_append_left (by rw [hf]; exact hr)]
  | y :: xs, i + 1, r, x, h, hr => by
    rw [List.flatMap_cons, List.getElem?_append_right (by rw [hf, Nat.add_mul]; omega), hf]
    rw [show (i + 1) * sz + r - sz = i * sz + r by rw [Nat.add_mul]; omega]
    exact flat_get hf xs i r x (by simpa using h) hr

theorem list_of {α : Type} {Q : Nat → α → Prop} : ∀ n : Nat, (∀ i, i < n → ∃ y, Q i y) → ∃ xs : List α, xs.length = n ∧ ∀ i y, xs[i]? = some y → Q i y
  | 0, _ => ⟨[], rfl, fun i y h => by simp at h⟩
  | k + 1, h => by
    obtain ⟨xs, h1, h2⟩ := list_of k (fun i hi => h i (by omega))
    obtain ⟨y, hy⟩ := h k (by omega)
    refine ⟨xs ++ [y], by simp [h1], fun i z hz => ?_⟩
    rcases Nat.lt_or_ge i xs.length with h | h
    · rw [List.getElem?_append_left h] at hz
      exact h2 i z hz
    · rw [List.getElem?_append_right h] at hz
      rcases Nat.eq_zero_or_pos (i - xs.length) with h0 | h0
      · rw [h0] at hz
        simp only [List.getElem?_cons_zero, Option.some.injEq] at hz
        subst hz
        have : i = k := by omega
        subst this
        exact hy
      · rw [List.getElem?_eq_none (by simp; omega)] at hz
        cases hz

def fzl {α : Type} (t : Bool) (es : Nat) (mk : α → List GV) (xs : List α) : GV :=
  match xs with
  | [] => mt
  | x :: xs => .fz t (xs.length + 1) es ((x :: xs).flatMap mk)
def mkSl {α : Type} (es : Nat) (mk : α → List GV) (xs : List α) : List GV := [fzl true es mk xs]
def inSl {α : Type} (I : α → Prop) (xs : List α) : Prop := xs.length ≤ maxLen ∧ ∀ x ∈ xs, I x

theorem tells_slice {α : Type} {P : Program} {t e : TypeId} {mk : α → List GV} {I : α → Prop} (ht : P.underlying t = some (.slice e)) (hs : P.cellsOf t = 1) (he : Tells P e mk I) : Tells P t (mkSl (P.cellsOf e) mk) (inSl I) :=
  ⟨fun a => by simp [mkSl, hs], fun enc w fuel cs x hx => by
    rcases open_slice ht hx with ⟨rfl, _⟩ | ⟨a, len, cap, m, n, D, Pl, rfl, _, hl, hm, hmm, _, hel⟩
    · exact ⟨[], ⟨_, _, rfl, .inl ⟨rfl, rfl, rfl, rfl⟩, rfl⟩, by simp [inSl]⟩
    · simp only [if_true] at hmm
      subst hmm
      have hall : ∀ i, i < len → ∃ y : α, I y ∧ ∃ cs', w.cells? 0 (a.add (i * P.cellsOf e)) (P.cellsOf e) = some cs' ∧ Told w (mk y) cs' := by
        intro i hi
        obtain ⟨cs', h1, h2⟩ := hel i (by omega)
        obtain ⟨y, h3, h4⟩ := he.op enc w n cs' _ h2
        exact ⟨y, h4, cs', h1, h3⟩
      obtain ⟨xs, hxl, hxs⟩ := list_of len hall
      subst hxl
      cases xs with
      | nil => exact ⟨[], ⟨_, _, rfl, .inr ⟨a, m, rfl, hl, rfl, fun hne => (hne rfl).elim⟩, rfl⟩, by simp [inSl]⟩
      | cons x0 xs0 =>
      generalize hxe : x0 :: xs0 = xs at *
      refine ⟨xs, ⟨_, _, rfl, ?_, rfl⟩, by omega, fun y hy => ?_⟩
      · have hfz : fzl true (P.cellsOf e) mk xs = .fz true xs.length (P.cellsOf e) (xs.flatMap mk) := by subst hxe; rfl
        rw [hfz]
        refine .inr ⟨a, m, rfl, hl, flat_len he.len xs, fun hne => ?_⟩
        clear hfz
        have cellAt : ∀ j, j < xs.length * P.cellsOf e → ∃ u, w.cell? (a.add j) = some u ∧ ∀ g, (xs.flatMap mk)[j]? = some g → VR w E0 (fun _ => False) g (fun c => c < w.heap.size) u := by
          intro j hj
          have hpos : 0 < P.cellsOf e := by
            rcases Nat.eq_zero_or_pos (P.cellsOf e) with h0 | h0
            · rw [h0] at hj; simp at hj
            · exact h0
          have hi : j / P.cellsOf e < xs.length := Nat.div_lt_of_lt_mul (by rw [Nat.mul_comm]; exact hj)
          have hr := Nat.mod_lt j hpos
          obtain ⟨_, cs', h1, h2⟩ := hxs _ _ (List.getElem?_eq_getElem hi)
          have hlen := VRs_len h2
          rw [he.len] at hlen
          have h6 := (World.cells?_some h1).2.2 (j % P.cellsOf e) hr
          rw [Go.Deep.add_add] at h6
          rw [show j / P.cellsOf e * P.cellsOf e + j % P.cellsOf e = j by rw [Nat.mul_comm]; exact Nat.div_add_mod ..] at h6
          rw [List.getElem?_eq_getElem (by omega : j % P.cellsOf e < cs'.length)] at h6
          refine ⟨cs'[j % P.cellsOf e]'(by omega), h6, fun g hg => ?_⟩
          have h7 := flat_get he.len xs (j / P.cellsOf e) (j % P.cellsOf e) _ (List.getElem?_eq_getElem hi) hr
          rw [show j / P.cellsOf e * P.cellsOf e + j % P.cellsOf e = j by rw [Nat.mul_comm]; exact Nat.div_add_mod ..] at h7
          rw [h7] at hg
          obtain ⟨u, q1, q2⟩ := VRs_get h2 _ g hg
          rw [List.getElem?_eq_getElem (by omega : j % P.cellsOf e < cs'.length)] at q1
          simp only [Option.some.injEq] at q1
          rw [q1]
          exact q2
        have hflen := flat_len he.len xs
        have hpos : 0 < xs.length * P.cellsOf e := by
          rw [← hflen]
          exact List.length_pos_iff.2 hne
        refine ⟨?_, (List.range (xs.length * P.cellsOf e)).map fun j => (w.cell? (a.add j)).getD undef, ?_, fun j u hj => ?_⟩
        · obtain ⟨u, hu, _⟩ := cellAt 0 hpos
          have := block_lt_of_cell hu
          rw [add_block] at this
          simpa using this
        · simp only [if_true]
          refine VRs_of (by simp [hflen]) fun j g u h1 h2 => ?_
          have hj : j < xs.length * P.cellsOf e := by
            have := (List.getElem?_eq_some_iff.1 h1).1
            omega
          obtain ⟨u', q1, q2⟩ := cellAt j hj
          rw [List.getElem?_map, List.getElem?_range hj, Option.map_some, q1] at h2
          simp only [Option.getD_some, Option.some.injEq] at h2
          rw [← h2]
          exact q2 g h1
        · have hj' : j < xs.length * P.cellsOf e := by
            have := (List.getElem?_eq_some_iff.1 hj).1
            simpa using this
          obtain ⟨u', q1, q2⟩ := cellAt j hj'
          rw [List.getElem?_map, List.getElem?_range hj', Option.map_some, q1] at hj
          simp only [Option.getD_some, Option.some.injEq] at hj
          rw [← hj]
          exact q1
      · obtain ⟨i, hi⟩ := List.getElem?_of_mem hy
        exact (hxs i y hi).1⟩

structure TellsAt {α : Type} (P : Program) (fs : List Field) (o sz : Nat) (mk : α → List GV) (I : α → Prop) : Prop where
  len : ∀ a, (mk a).length = sz
  op : ∀ {H : Type} (enc : TypeId × Value → H) (w : World) (fuel : Nat) (cs : List Value), o + sz ≤ cs.length →
    (∀ f ∈ fs, ∃ x, DataW.trod enc P w 0 (fun _ => true) true fuel f.type ((cs.drop f.offset).take (P.cellsOf f.type)) = some x) → ∃ a : α, Told w (mk a) ((cs.drop o).take sz) ∧ I a

end Go.Proofs.Ytlbnioapepelnaa.G

namespace Go.Proofs.Ytlbnioapepelnaa.G
open Go.RowKit

def Le (c c' : GCall) : Prop := ∀ f args h r, c f args h = some r → c' f args h = some r

section
variable {P : Program} {C : Cfg} {c c' : GCall} {nt : Nat}

theorem gsplit_mono (hc : Le c c') {g : FuncId} (e : gsplit c g = true) : gsplit c' g = true := by
  unfold gsplit at e ⊢
  split at e
  · rename_i h1 l1 h2 l2 e1 e2
    rw [hc _ _ _ _ e1, hc _ _ _ _ e2]
  · cases e

theorem gcallee_mono (hc : Le c c') {g : FuncId} {args : List GV} {h : Heap} {r : GV × Heap × Lg} (e : gcallee P C c g args h = some r) : gcallee P C c' g args h = some r := by
  unfold gcallee at e ⊢
  split at e
  · cases e
  · rename_i fn hfn
    try simp only [hfn]
    split at e
    · rename_i hb
      rw [if_pos hb]
      split at e
      · rename_i ex hex
        try simp only [hex]
        exact e
      · rename_i hex
        try simp only [hex]
        split at e
        · rename_i hh
          rw [if_pos hh]
          split at e
          · rename_i hsp
            rw [if_pos hsp]
            split at e
            · rename_i hgs
              rw [if_pos (gsplit_mono hc hgs)]
              exact e
            · cases e
          · rename_i hsp
            rw [if_neg hsp]
            exact hc _ _ _ _ e
        · rename_i hh
          rw [if_neg hh]
          split at e
          · rename_i hfr
            rw [if_pos hfr]
            simp only [Option.bind_eq_bind, obsi] at e ⊢
            obtain ⟨xs, hxs, e⟩ := e
            refine ⟨xs, hxs, ?_⟩
            split at e
            · rename_i hsp
              rw [if_pos hsp]
              split at e
              · rename_i hgs
                rw [if_pos (gsplit_mono hc hgs)]
                exact e
              · cases e
            rename_i hsp
            rw [if_neg hsp]
            simp only [obsi] at e ⊢
            obtain ⟨y, hy, rest⟩ := e
            exact ⟨y, hc _ _ _ _ hy, rest⟩
          rename_i hfr
          rw [if_neg hfr]
          simp only [Option.bind_eq_bind, obsi] at e ⊢
          obtain ⟨xs, hxs, y, hy, rest⟩ := e
          exact ⟨xs, hxs, y, hc _ _ _ _ hy, rest⟩
    · cases e

theorem gop_mono (hc : Le c c') {ev : Operand → Option GV} {o : Oper} {h : Heap} {r : GV × Heap × Lg} (e : gop P C c ev o h = some r) : gop P C c' ev o h = some r := by
  cases ho : o.op with
  | call cl =>
    simp only [gop, ho] at e ⊢
    cases hk : cl.callee with
    | builtin b => rw [hk] at e; exact e
    | value f =>
      rw [hk] at e
      simp only [Option.bind_eq_bind, obsi] at e ⊢
      obtain ⟨v, hv, e⟩ := e
      refine ⟨v, hv, ?_⟩
      split at e
      · simp only [obsi] at e ⊢
        obtain ⟨gs, has, e⟩ := e
        exact ⟨gs, has, gcallee_mono hc e⟩
      · cases e
    | invoke r m => rw [hk] at e; cases e
  | makeFunc f a b => cases f <;> (simp only [gop, ho] at e ⊢; exact e)
  | _ => simp only [gop, ho] at e ⊢; exact e

theorem gops_mono (hc : Le c c') {ops : Array Oper} : ∀ (l : List Nat) (σ : GS) (h : Heap) (r : GS × Heap × List Rec), gops P C c nt ops l σ h = some r → gops P C c' nt ops l σ h = some r
  | [], σ, h, r, e => e
  | j :: rest, σ, h, r, e => by
    unfold gops at e ⊢
    cases hj : ops[j]? with
    | none => rw [hj] at e; cases e
    | some o =>
      rw [hj] at e
      simp only at e ⊢
      split at e
      · rename_i hd
        rw [if_pos hd]
        split at e
        · rename_i hw
          rw [if_pos hw]
          simp only [Option.bind_eq_bind, obsi] at e ⊢
          obtain ⟨x, hx, y, hy, rest'⟩ := e
          exact ⟨x, gop_mono hc hx, y, gops_mono hc rest _ _ _ hy, rest'⟩
        · rename_i hw
          rw [if_neg hw]
          simp only [Option.bind_eq_bind, obsi] at e ⊢
          obtain ⟨y, hy, rest'⟩ := e
          exact ⟨y, gops_mono hc rest _ _ _ hy, rest'⟩
      · cases e

theorem gregion_mono (hc : Le c c') {ops : Array Oper} {draw : Bool} {σ : GS} {h : Heap} {r : GS × Heap × Lg} (e : gregion P C c nt ops draw σ h = some r) : gregion P C c' nt ops draw σ h = some r := by
  unfold gregion at e ⊢
  simp only [Option.bind_eq_bind, obsi] at e ⊢
  obtain ⟨x, hx, e⟩ := e
  exact ⟨x, gops_mono hc _ _ _ _ hx, e⟩

theorem gloop_mono {b b' : GS → Heap → GR} (hb : ∀ σ h r, b σ h = some r → b' σ h = some r) : ∀ (k k' : Nat) (σ : GS) (h : Heap) (r : GX × GS × Heap × Lg), k ≤ k' → gloop b k σ h = some r → gloop b' k' σ h = some r
  | 0, k', σ, h, r, _, e => by cases e
  | k + 1, 0, σ, h, r, hk, e => by omega
  | k + 1, k' + 1, σ, h, r, hk, e => by
    unfold gloop at e ⊢
    split at e
    · rename_i σ1 h1 l1 h0
      rw [hb _ _ _ h0]
      obtain ⟨x, hx, e⟩ := Option.map_eq_some_iff.1 e
      exact Option.map_eq_some_iff.2 ⟨x, gloop_mono hb k k' _ _ _ (by omega) hx, e⟩
    · rename_i hne
      rw [hb _ _ _ e]
      obtain ⟨x, σ1, h1, l1⟩ := r
      cases x with
      | nrm => exact (hne _ _ _ e).elim
      | _ => rfl

theorem gcode_mono (hc : Le c c') {k k' : Nat} (hk : k ≤ k') : ∀ (x : Code) (σ : GS) (h : Heap) (r : GX × GS × Heap × Lg), gcode P C c k nt x σ h = some r → gcode P C c' k' nt x σ h = some r
  | .skip, σ, h, r, e => e
  | .region id ops draw, σ, h, r, e => by
    simp only [gcode] at e ⊢
    obtain ⟨y, hy, e⟩ := Option.map_eq_some_iff.1 e
    exact Option.map_eq_some_iff.2 ⟨y, gregion_mono hc hy, e⟩
  | .seq a b, σ, h, r, e => by
    simp only [gcode] at e ⊢
    split at e
    · rename_i σ1 h1 l1 h0
      rw [gcode_mono hc hk a _ _ _ h0]
      obtain ⟨y, hy, e⟩ := Option.map_eq_some_iff.1 e
      exact Option.map_eq_some_iff.2 ⟨y, gcode_mono hc hk b _ _ _ hy, e⟩
    · rename_i hne
      rw [gcode_mono hc hk a _ _ _ e]
      obtain ⟨x, σ1, h1, l1⟩ := r
      cases x with
      | nrm => exact (hne _ _ _ e).elim
      | _ => rfl
  | .cond o a b, σ, h, r, e => by
    simp only [gcode] at e ⊢
    split at e
    · rename_i t ht
      cases t with
      | true => exact gcode_mono hc hk a _ _ _ e
      | false => exact gcode_mono hc hk b _ _ _ e
    · cases e
  | .block id a, σ, h, r, e => by
    simp only [gcode] at e ⊢
    split at e
    · rename_i id' σ1 h1 l1 h0
      rw [gcode_mono hc hk a _ _ _ h0]
      exact e
    · rename_i hne
      rw [gcode_mono hc hk a _ _ _ e]
      obtain ⟨x, σ1, h1, l1⟩ := r
      cases x with
      | ext id => exact (hne _ _ _ _ e).elim
      | _ => rfl
  | .loop a, σ, h, r, e => by
    simp only [gcode] at e ⊢
    exact gloop_mono (fun σ h r e => gcode_mono hc hk a σ h r e) _ _ _ _ _ hk e
  | .exit id, σ, h, r, e => e
  | .ret, σ, h, r, e => e
  | .label l, σ, h, r, e => e
  | .goto l, σ, h, r, e => by simp only [gcode] at e; cases e
  | .scope a, σ, h, r, e => by simp only [gcode] at e; cases e
  | .rangeFunc .., σ, h, r, e => by simp only [gcode] at e; cases e

def gfun (P : Program) (C : Cfg) (c : GCall) (k : Nat) : GCall := fun f args h =>
  match P.funcs[f]? with
  | none => none
  | some fn =>
    match fn.body with
    | none => none
    | some b =>
      match gcode P C c k (max args.length fn.ntmps) b (fun t => args.getD t .un) h with
      | some (.ext _, _, _, _) => none
      | some (_, σ, h', l) => (gresults P fn σ h').map fun (v, r) => (v, h', l.add ⟨r, []⟩)
      | none => none

theorem gcall_succ (k : Nat) : gcall P C (k + 1) = gfun P C (gcall P C k) k := rfl

theorem gfun_mono (hc : Le c c') {k k' : Nat} (hk : k ≤ k') : Le (gfun P C c k) (gfun P C c' k') := by
  intro f args h r e
  unfold gfun at e ⊢
  split at e
  · cases e
  · rename_i fn hfn
    try simp only [hfn]
    split at e
    · cases e
    · rename_i b hb
      try simp only [hb]
      split at e
      · cases e
      · rename_i x σ h' l hne h0
        rw [gcode_mono hc hk b _ _ _ h0]
        cases x with
        | ext id => exact (hne _ rfl).elim
        | _ => exact e
      · cases e

theorem gcall_le : ∀ (k : Nat), Le (gcall P C k) (gcall P C (k + 1))
  | 0 => fun f args h r e => by cases e
  | k + 1 => by
    rw [gcall_succ, gcall_succ]
    exact gfun_mono (gcall_le k) (Nat.le_succ k)

theorem gcall_mono {k k' : Nat} (h : k ≤ k') : Le (gcall P C k) (gcall P C k') := by
  induction k' with
  | zero => rw [Nat.le_zero.1 h]; exact fun _ _ _ _ e => e
  | succ n ih =>
    rcases Nat.lt_or_ge k (n + 1) with h1 | h1
    · exact fun f args h r e => gcall_le n f args h r (ih (by omega) f args h r e)
    · rw [show k = n + 1 by omega]; exact fun _ _ _ _ e => e

end

end Go.Proofs.Ytlbnioapepelnaa.G

namespace Go.Proofs.Ytlbnioapepelnaa.G
open Go.RowKit

mutual
def Bki : GV → (Nat → Prop) → Prop
  | .ptr i _ _, S => S i
  | .sl i _ _ _ _, S => S i
  | .fp _ cs, S => Bksi cs fun _ => False
  | .fz _ _ _ cs, S => Bksi cs fun _ => False
  | .fn _ cs, S => Bksi cs S
  | .agg cs, S => Bksi cs S
  | .tup cs, S => Bksi cs S
  | .int _ _, S => True
  | .bool _, S => True
  | .str _, S => True
  | .nilp, S => True
  | .nils, S => True
  | .emp, S => True
  | .nili, S => True
  | .ifc, S => True
  | .un, S => True
  | .dk _, S => True
def Bksi : List GV → (Nat → Prop) → Prop
  | [], S => True
  | g :: gs, S => Bki g S ∧ Bksi gs S
end
abbrev Bk (S : Nat → Prop) (g : GV) : Prop := Bki g S
abbrev Bks (S : Nat → Prop) (l : List GV) : Prop := Bksi l S
mutual
theorem Bki.mono {S T : Nat → Prop} (hs : ∀ i, S i → T i) : ∀ (g : GV), Bki g S → Bki g T
  | .ptr i _ _, h => hs _ h
  | .sl i _ _ _ _, h => hs _ h
  | .fp _ cs, h => h
  | .fz _ _ _ cs, h => h
  | .fn _ cs, h => Bksi.mono hs cs h
  | .agg cs, h => Bksi.mono hs cs h
  | .tup cs, h => Bksi.mono hs cs h
  | .int _ _, h => trivial
  | .bool _, h => trivial
  | .str _, h => trivial
  | .nilp, h => trivial
  | .nils, h => trivial
  | .emp, h => trivial
  | .nili, h => trivial
  | .ifc, h => trivial
  | .un, h => trivial
  | .dk _, h => trivial
theorem Bksi.mono {S T : Nat → Prop} (hs : ∀ i, S i → T i) : ∀ (l : List GV), Bksi l S → Bksi l T
  | [], h => trivial
  | g :: gs, h => ⟨Bki.mono hs g h.1, Bksi.mono hs gs h.2⟩
end
abbrev NB : Nat → Prop := fun _ => False
section
variable {S : Nat → Prop} {P : Program} {C : Cfg} {call : GCall} {h h' : Heap} {v : GV} {lg : Lg} {ev : Operand → Option GV} {o : Oper}
theorem Bks_iff : ∀ {l : List GV}, Bks S l ↔ ∀ g ∈ l, Bk S g
  | [] => by simp [Bksi]
  | g :: l => by simp [Bksi]; intro _; exact Bks_iff (l := l)
theorem Bks.mem {l : List GV} (hl : Bks S l) {g : GV} (hg : g ∈ l) : Bk S g := Bks_iff.1 hl g hg
theorem Bks.sub {l m : List GV} (hl : Bks S l) (hm : ∀ g ∈ m, g ∈ l) : Bks S m := Bks_iff.2 fun g hg => hl.mem (hm g hg)
theorem Bks.app {l m : List GV} (hl : Bks S l) (hm : Bks S m) : Bks S (l ++ m) := Bks_iff.2 fun g hg => by rcases List.mem_append.1 hg with h | h; exact hl.mem h; exact hm.mem h
theorem Bks.drop {l : List GV} (hl : Bks S l) {n : Nat} : Bks S (l.drop n) := hl.sub fun g hg => List.mem_of_mem_drop hg
theorem Bks.take {l : List GV} (hl : Bks S l) {n : Nat} : Bks S (l.take n) := hl.sub fun g hg => List.mem_of_mem_take hg
theorem Bks.splice {l m : List GV} (hl : Bks S l) (hm : Bks S m) {o : Nat} : Bks S (splice l o m) := (hl.take.app hm).app hl.drop
theorem Bks.get {l : List GV} (hl : Bks S l) {n : Nat} {g : GV} (h : l[n]? = some g) : Bk S g := hl.mem (List.mem_of_getElem? h)
theorem Bk.cells {v : GV} (hv : Bk S v) : Bks S v.cells := by
  cases v <;> first | exact ⟨hv, trivial⟩ | (simp only [GV.cells]; simpa only [Bki] using hv)
theorem Bki.to {g : GV} (hg : Bk NB g) : Bk S g := Bki.mono (fun i h => h.elim) g hg
theorem Bksi.tos {l : List GV} (hg : Bks NB l) : Bks S l := Bksi.mono (fun i h => h.elim) l hg
theorem mapM_all {α β : Type} {f : α → Option β} {Q : β → Prop} : ∀ {l : List α} {ys : List β}, l.mapM f = some ys → (∀ a ∈ l, ∀ b, f a = some b → Q b) → ∀ b ∈ ys, Q b
  | [], ys, e, _, b, hb => by cases e; cases hb
  | a :: l, ys, e, hq, b, hb => by
    simp only [List.mapM_cons, Option.bind_eq_bind, obsi, Option.pure_def, Option.some.injEq] at e
    obtain ⟨y, h1, ys', h2, rfl⟩ := e
    rcases List.mem_cons.1 hb with rfl | hb
    · exact hq a (by simp) _ h1
    · exact mapM_all h2 (fun a ha => hq a (by simp [ha])) b hb
theorem mapM_bks {α : Type} {f : α → Option GV} {l : List α} {ys : List GV} (e : l.mapM f = some ys) (hq : ∀ a ∈ l, ∀ b, f a = some b → Bk S b) : Bks S ys := Bks_iff.2 (mapM_all e hq)
theorem bk_ofC {x : Value} {g : GV} (e : ofC x = some g) : Bk S g := by
  unfold ofC at e
  split at e <;> first | (cases e; done) | (cases e; trivial)
theorem bk_ofV {x : Value} {g : GV} (e : ofV x = some g) : Bk S g := by
  unfold ofV at e
  split at e
  · obtain ⟨ys, h1, rfl⟩ := Option.map_eq_some_iff.1 e
    exact mapM_bks h1 fun a _ b hb => bk_ofC hb
  · exact bk_ofC e
theorem bk_zero {t : TypeId} {z : List GV} (e : gzero P t = some z) : Bks S z := by
  unfold gzero at e
  simp only [Option.bind_eq_bind, obsi, Option.some.injEq] at e
  obtain ⟨i, _, x, _, g, h1, rfl⟩ := e
  exact (bk_ofV h1).cells
theorem bk_zeros {z : List GV} (hz : Bks S z) : ∀ n, Bks S (zeros z n)
  | 0 => trivial
  | n + 1 => hz.app (bk_zeros hz n)
theorem cellsAt_get {i tot : Nat} {cs : List GV} (e : cellsAt h i tot = some cs) : h[i]? = some cs := by
  unfold cellsAt at e
  split at e
  · rename_i cs' h1
    cases hb : Nat.beq cs'.length tot with
    | false => rw [hb] at e; cases e
    | true => rw [hb] at e; cases e; exact h1
  · cases e
def HC (S : Nat → Prop) (h : Heap) : Prop := ∀ i cs, S i → h[i]? = some cs → Bks S cs
theorem HC.at (hc : HC S h) {i tot : Nat} {cs : List GV} (hi : S i) (e : cellsAt h i tot = some cs) : Bks S cs ∧ i < h.length := ⟨hc i cs hi (cellsAt_get e), (List.getElem?_eq_some_iff.1 (cellsAt_get e)).1⟩
theorem HC.set (hc : HC S h) {i : Nat} {cs : List GV} (hs : Bks S cs) : HC S (h.set i cs) := fun j ds hj e => by
  by_cases hij : i = j
  · subst hij
    rw [List.getElem?_set] at e
    split at e
    · split at e
      · cases e; exact hs
      · cases e
    · exact hc _ _ hj e
  · rw [List.getElem?_set_ne hij] at e; exact hc _ _ hj e
theorem HC.app (hc : HC S h) {bl : List (List GV)} (hb : ∀ cs ∈ bl, Bks S cs) : HC S (h ++ bl) := fun j ds hj e => by
  rcases Nat.lt_or_ge j h.length with h1 | h1
  · rw [List.getElem?_append_left h1] at e; exact hc _ _ hj e
  · rw [List.getElem?_append_right h1] at e; exact hb _ (List.mem_of_getElem? e)
theorem HC.app1 (hc : HC S h) {cs : List GV} (hb : Bks S cs) : HC S (h ++ [cs]) := hc.app fun ds hd => by rw [List.mem_singleton.1 hd]; exact hb
def LS (S : Nat → Prop) (n : Nat) (l : List Nat) : Prop := ∀ i ∈ l, S i ∧ i < n
theorem LS.nil {n : Nat} : LS S n [] := fun i hi => by cases hi
theorem LS.mono {n m : Nat} {l : List Nat} (h : LS S n l) (hn : n ≤ m) : LS S m l := fun i hi => ⟨(h i hi).1, Nat.lt_of_lt_of_le (h i hi).2 hn⟩
theorem LS.app {n : Nat} {l m : List Nat} (h : LS S n l) (h' : LS S n m) : LS S n (l ++ m) := fun i hi => by rcases List.mem_append.1 hi with a | a; exact h i a; exact h' i a
theorem LS.one {n i : Nat} (hi : S i) (hn : i < n) : LS S n [i] := fun j hj => by rw [List.mem_singleton.1 hj]; exact ⟨hi, hn⟩
theorem LS.cons {n i : Nat} {l : List Nat} (hi : S i ∧ i < n) (hl : LS S n l) : LS S n (i :: l) := fun j hj => by rcases List.mem_cons.1 hj with rfl | hj; exact hi; exact hl j hj

structure Rch (S : Nat → Prop) (h : Heap) (v : GV) (h' : Heap) (lg : Lg) : Prop where
  v : Bk S v
  hc : HC S h'
  len : h.length ≤ h'.length
  r : LS S h'.length lg.r
  w : LS S h'.length lg.w
theorem Rch.same (hc : HC S h) (hv : Bk S v) {r : List Nat} (hr : LS S h.length r) : Rch S h v h ⟨r, []⟩ := ⟨hv, hc, Nat.le_refl _, hr, .nil⟩
theorem Rch.nil (hc : HC S h) (hv : Bk S v) : Rch S h v h .nil := ⟨hv, hc, Nat.le_refl _, .nil, .nil⟩

theorem bk_read {a : GV} {n : Nat} {cs : List GV} {r : List Nat} (e : gread h a n = some (cs, r)) (ha : Bk S a) (hc : HC S h) : Bks S cs ∧ LS S h.length r := by
  unfold gread at e
  split at e
  · simp only [Option.bind_eq_bind, obsi] at e
    obtain ⟨ds, h1, e⟩ := e
    obtain ⟨h2, h3⟩ := hc.at ha h1
    split at e
    · cases e; exact ⟨h2.drop.take, .one ha h3⟩
    · cases e
  · split at e
    · cases e; exact ⟨Bks.take (Bksi.tos ha), .nil⟩
    · cases e
  · cases e
theorem bk_load {t : TypeId} {a : GV} {r : List Nat} (e : gload P h t a = some (v, r)) (ha : Bk S a) (hc : HC S h) : Bk S v ∧ LS S h.length r := by
  unfold gload at e
  simp only [Option.bind_eq_bind, obsi] at e
  obtain ⟨b, _, e⟩ := e
  split at e
  · simp only [obsi, Option.some.injEq, Prod.mk.injEq] at e
    obtain ⟨n, _, ⟨cs, r'⟩, h1, rfl, rfl⟩ := e
    obtain ⟨h2, h3⟩ := bk_read h1 ha hc
    exact ⟨h2, h3⟩
  · simp only [obsi] at e
    obtain ⟨⟨cs, r'⟩, h1, e⟩ := e
    obtain ⟨h2, h3⟩ := bk_read h1 ha hc
    rcases cs with _ | ⟨c, _ | ⟨d, cs⟩⟩
    · cases e
    · cases e; exact ⟨h2.1, h3⟩
    · cases e
theorem bk_part {t : TypeId} {cs : List GV} {off : Nat} (e : gpart P t cs off = some v) (hc : Bks S cs) : Bk S v := by
  unfold gpart at e
  simp only [Option.bind_eq_bind, obsi] at e
  obtain ⟨b, _, e⟩ := e
  split at e
  · simp only [obsi] at e
    obtain ⟨n, _, e⟩ := e
    split at e
    · cases e; exact hc.drop.take
    · cases e
  · exact hc.get e
theorem bk_cells {es n : Nat} {x : GV} {cs : List GV} {r : List Nat} (e : gcells h es x = some (n, cs, r)) (hx : Bk S x) (hc : HC S h) : Bks S cs ∧ LS S h.length r := by
  unfold gcells at e
  split at e
  · simp only [Option.bind_eq_bind, obsi] at e
    obtain ⟨ds, h1, e⟩ := e
    obtain ⟨h2, h3⟩ := hc.at hx h1
    split at e
    · cases e; exact ⟨h2.drop.take, .one hx h3⟩
    · cases e
  · split at e
    · cases e; exact ⟨trivial, .nil⟩
    · split at e
      · cases e; exact ⟨Bksi.tos hx, .nil⟩
      · cases e
  · cases e; exact ⟨trivial, .nil⟩
  · cases e; exact ⟨trivial, .nil⟩
  · split at e
    · cases e
      exact ⟨Bks_iff.2 fun g hg => by obtain ⟨b, _, rfl⟩ := List.mem_map.1 hg; trivial, .nil⟩
    · cases e
  · cases e
theorem bk_slice {t : TypeId} {x : GV} {lo hi mx : Option GV} (e : gslice P t x lo hi mx = some v) (hx : Bk S x) : Bk S v := by
  unfold gslice at e
  simp only [Option.bind_eq_bind, obsi] at e
  obtain ⟨l, _, e⟩ := e
  split at e
  · cases e
  split at e
  · split at e
    · cases e
    · simp only [obsi] at e
      obtain ⟨_, _, e⟩ := e
      split at e
      · cases e; trivial
      · cases e
  · simp only [obsi] at e
    obtain ⟨_, _, _, _, e⟩ := e
    split at e
    · split at e
      · cases e; exact hx
      · split at e <;> (cases e; trivial)
    · cases e
  · simp only [obsi] at e
    obtain ⟨_, _, _, _, e⟩ := e
    split at e
    · cases e; trivial
    · cases e
  · simp only [obsi] at e
    obtain ⟨_, _, _, _, e⟩ := e
    split at e
    · split at e
      · cases e; trivial
      · cases e
        have hx' : Bks NB _ := hx
        exact hx'.drop.take
    · cases e
  · simp only [obsi] at e
    obtain ⟨_, _, _, _, e⟩ := e
    split at e
    · cases e; trivial
    · cases e
  · simp only [obsi] at e
    obtain ⟨_, _, _, _, e⟩ := e
    split at e
    · cases e; trivial
    · cases e
  · cases e
theorem bk_bin {op : BinOp} {t : TypeId} {x y : GV} (e : gbin P op t x y = some v) : Bk S v := by
  unfold gbin at e
  split at e
  · split at e <;> cases e; trivial
  · split at e <;> cases e; trivial
  · split at e
    · split at e <;> first | cases e; done | (cases e; trivial) | (split at e <;> first | cases e; done | (cases e; trivial))
    · cases e
  · split at e <;> first | cases e; done | (cases e; trivial) | (split at e <;> first | cases e; done | (cases e; trivial))
  · cases e
theorem bk_binop {op : BinOp} {t : TypeId} {xo yo : Operand} {x y : GV} (e : gbinop P op t xo yo x y = some v) : Bk S v := by
  unfold gbinop at e
  split at e
  · rename_i r hr
    cases e; exact bk_bin hr
  · split at e
    · split at e
      · obtain ⟨_, _, rfl⟩ := Option.map_eq_some_iff.1 e; trivial
      · obtain ⟨_, _, rfl⟩ := Option.map_eq_some_iff.1 e; trivial
      · cases e
    · cases e
theorem bk_fill {place : Nat → Option (Nat × Nat)} : ∀ {ps : List (Nat × GV)} {cells cs : List GV}, gfill place cells ps = some cs → Bks S cells → (∀ p ∈ ps, Bk S p.2) → Bks S cs
  | [], cells, cs, e, hc, _ => by cases e; exact hc
  | (i, v) :: ps, cells, cs, e, hc, hp => by
    unfold gfill at e
    split at e
    · cases e
    · split at e
      · exact bk_fill e (hc.splice (hp (i, v) (by simp)).cells) fun p h => hp p (by simp [h])
      · cases e
theorem bk_parts {parts : Array (Nat × Operand)} {ps : List (Nat × GV)} (e : gparts ev parts = some ps) (hev : ∀ x g, ev x = some g → Bk S g) : ∀ p ∈ ps, Bk S p.2 := by
  unfold gparts at e
  refine mapM_all e fun a _ b hb => ?_
  obtain ⟨g, h1, rfl⟩ := Option.map_eq_some_iff.1 hb
  exact hev _ _ h1

theorem bor_ls (hc : HC S h) : ∀ (d : Nat) (g g' : GV) (r : List Nat), bor d h g = some (g', r) → Bk S g → LS S h.length r
  | 0, g, g', r, e, _ => by cases e
  | d + 1, g, g', r, e, hg => by
    have many : ∀ {l : List GV} {xs : List (GV × List Nat)}, l.mapM (bor d h) = some xs → Bks S l → LS S h.length (xs.map (·.2)).flatten := fun {l xs} hx hl i hi => by
      obtain ⟨r', h1, h2⟩ := List.mem_flatten.1 hi
      obtain ⟨x, h3, rfl⟩ := List.mem_map.1 h1
      exact mapM_all (Q := fun x => LS S h.length x.2) hx (fun a ha b hb => bor_ls hc d a b.1 b.2 hb (hl.mem ha)) x h3 i h2
    unfold bor at e
    split at e
    · simp only [Option.bind_eq_bind, obsi] at e
      obtain ⟨cs, h1, xs, h2, e⟩ := e
      obtain ⟨h3, h4⟩ := hc.at hg h1
      split at e
      · split at e
        · cases e; exact .one hg h4
        · cases e; exact .cons ⟨hg, h4⟩ (many h2 h3.drop.take)
      · cases e
    · simp only [Option.bind_eq_bind, obsi, Option.some.injEq, Prod.mk.injEq] at e
      obtain ⟨cs, h1, xs, h2, rfl, rfl⟩ := e
      obtain ⟨h3, h4⟩ := hc.at hg h1
      exact .cons ⟨hg, h4⟩ (many h2 h3.drop)
    · simp only [Option.bind_eq_bind, obsi, Option.some.injEq, Prod.mk.injEq] at e
      obtain ⟨xs, h2, rfl, rfl⟩ := e
      exact many h2 hg
    · simp only [Option.bind_eq_bind, obsi, Option.some.injEq, Prod.mk.injEq] at e
      obtain ⟨xs, h2, rfl, rfl⟩ := e
      exact many h2 hg
    · cases e
    · cases e; exact .nil
    · cases e; exact .nil
    · cases e; exact .nil
    · cases e; exact .nil
    · cases e; exact .nil
theorem bors_ls (hc : HC S h) {l : List GV} {xs : List (GV × List Nat)} (hx : l.mapM (bor 9 h) = some xs) (hl : Bks S l) : LS S h.length (xs.map (·.2)).flatten := fun i hi => by
  obtain ⟨r', h1, h2⟩ := List.mem_flatten.1 hi
  obtain ⟨x, h3, rfl⟩ := List.mem_map.1 h1
  exact mapM_all (Q := fun x => LS S h.length x.2) hx (fun a ha b hb => bor_ls hc 9 a b.1 b.2 hb (hl.mem ha)) x h3 i h2
theorem bk_lend : ∀ (d : Nat) (g : GV), Bk NB g → Bk NB (lend d g)
  | 0, g, h => h
  | d + 1, g, h => by
    have many : ∀ {l : List GV}, Bks NB l → Bks NB (l.map (lend d)) := fun {l} hl => Bks_iff.2 fun g hg => by
      obtain ⟨x, h3, rfl⟩ := List.mem_map.1 hg
      exact bk_lend d x (hl.mem h3)
    unfold lend
    split
    · trivial
    · exact many h
    · exact many h
    · trivial
    · trivial
    · exact many h
    · exact h
theorem bk_bor (hc : HC S h) : ∀ (d : Nat) (g g' : GV) (r : List Nat), bor d h g = some (g', r) → Bk S g → Bk NB g'
  | 0, g, g', r, e, _ => by cases e
  | d + 1, g, g', r, e, hg => by
    have many : ∀ {l : List GV} {xs : List (GV × List Nat)}, l.mapM (bor d h) = some xs → Bks S l → Bks NB (xs.map (·.1)) := fun {l xs} hx hl => Bks_iff.2 fun g hg => by
      obtain ⟨x, h3, rfl⟩ := List.mem_map.1 hg
      exact mapM_all (Q := fun x => Bk NB x.1) hx (fun a ha b hb => bk_bor hc d a b.1 b.2 hb (hl.mem ha)) x h3
    unfold bor at e
    split at e
    · simp only [Option.bind_eq_bind, obsi] at e
      obtain ⟨cs, h1, xs, h2, e⟩ := e
      obtain ⟨h3, h4⟩ := hc.at hg h1
      split at e
      · split at e
        · cases e; trivial
        · cases e; exact many h2 h3.drop.take
      · cases e
    · simp only [Option.bind_eq_bind, obsi, Option.some.injEq, Prod.mk.injEq] at e
      obtain ⟨cs, h1, xs, h2, rfl, rfl⟩ := e
      obtain ⟨h3, h4⟩ := hc.at hg h1
      exact many h2 h3.drop
    · simp only [Option.bind_eq_bind, obsi, Option.some.injEq, Prod.mk.injEq] at e
      obtain ⟨xs, h2, rfl, rfl⟩ := e
      exact many h2 hg
    · simp only [Option.bind_eq_bind, obsi, Option.some.injEq, Prod.mk.injEq] at e
      obtain ⟨xs, h2, rfl, rfl⟩ := e
      exact many h2 hg
    · cases e
    · cases e; trivial
    · cases e; trivial
    · cases e; exact bk_lend (d + 1) _ hg
    · cases e; exact bk_lend (d + 1) _ hg
    · rename_i x1 x2 x3 x4 x5 x6 x7 x8 x9
      cases e
      cases g <;> first | trivial | (exfalso; exact x1 _ _ _ _ _ rfl) | (exfalso; simp_all; done)
theorem bk_bors (hc : HC S h) {l : List GV} {xs : List (GV × List Nat)} (hx : l.mapM (bor 9 h) = some xs) (hl : Bks S l) : Bks NB (xs.map (·.1)) := Bks_iff.2 fun g hg => by
  obtain ⟨x, h3, rfl⟩ := List.mem_map.1 hg
  exact mapM_all (Q := fun x => Bk NB x.1) hx (fun a ha b hb => bk_bor hc 9 a b.1 b.2 hb (hl.mem ha)) x h3
theorem bk_frz (hc : HC S h) : ∀ (d : Nat) (g g' : GV) (r : List Nat), frz d h g = some (g', r) → Bk S g → Bk NB g'
  | 0, g, g', r, e, _ => by cases e
  | d + 1, g, g', r, e, hg => by
    have many : ∀ {l : List GV} {xs : List (GV × List Nat)}, l.mapM (frz d h) = some xs → Bks S l → Bks NB (xs.map (·.1)) := fun {l xs} hx hl => Bks_iff.2 fun g hg => by
      obtain ⟨x, h3, rfl⟩ := List.mem_map.1 hg
      exact mapM_all (Q := fun x => Bk NB x.1) hx (fun a ha b hb => bk_frz hc d a b.1 b.2 hb (hl.mem ha)) x h3
    unfold frz at e
    split at e
    · simp only [Option.bind_eq_bind, obsi] at e
      obtain ⟨cs, h1, xs, h2, e⟩ := e
      obtain ⟨h3, h4⟩ := hc.at hg h1
      split at e
      · split at e
        · cases e; trivial
        · cases e; exact many h2 h3.drop.take
      · cases e
    · cases e
    · cases e
    · cases e
    · cases e; trivial
    · cases e
    · cases e; trivial
    · cases e; trivial
    · simp only [Option.bind_eq_bind, obsi, Option.some.injEq, Prod.mk.injEq] at e
      obtain ⟨xs, h2, rfl, rfl⟩ := e
      exact many h2 hg
    · simp only [Option.bind_eq_bind, obsi, Option.some.injEq, Prod.mk.injEq] at e
      obtain ⟨xs, h2, rfl, rfl⟩ := e
      exact many h2 hg
    · rename_i x1 x2 x3 x4 x5 x6 x7 x8 x9 x10
      cases e
      cases g <;> first | trivial | exact hg | (exfalso; exact x1 _ _ _ _ _ rfl) | (exfalso; simp_all; done)
theorem bk_ownL {T : Nat → Prop} {b : Nat} {f : Nat → GV → Option (GV × Vis × List (List GV))} (hf : ∀ b' g r, b ≤ b' → Bk S g → f b' g = some r → Bk T r.1 ∧ ∀ cs ∈ r.2.2, Bks T cs) : ∀ (l : List GV) (b' : Nat) (q : List GV × Vis × List (List GV)), b ≤ b' → Bks S l → ownL f b' l = some q → Bks T q.1 ∧ ∀ cs ∈ q.2.2, Bks T cs
  | [], b', q, hb, _, e => by cases e; exact ⟨trivial, fun cs h => by cases h⟩
  | g :: l, b', q, hb, hl, e => by
    unfold ownL at e
    simp only [obsi, Option.some.injEq] at e
    obtain ⟨r, h1, q', h2, rfl⟩ := e
    obtain ⟨a1, a2⟩ := hf _ _ _ hb hl.1 h1
    obtain ⟨a3, a4⟩ := bk_ownL hf l _ _ (Nat.le_trans hb (Nat.le_add_right _ _)) hl.2 h2
    exact ⟨⟨a1, a3⟩, fun cs h => by rcases List.mem_append.1 h with h | h; exact a2 cs h; exact a4 cs h⟩
theorem bk_own {T : Nat → Prop} {b : Nat} (hc : HC S h) (hb : ∀ i, b ≤ i → T i) : ∀ (d : Nat) (b' : Nat) (g : GV) (r : GV × Vis × List (List GV)), b ≤ b' → Bk S g → own d h b' g = some r → Bk T r.1 ∧ ∀ cs ∈ r.2.2, Bks T cs
  | 0, b', g, r, _, _, e => by cases e
  | d + 1, b', g, r, hb', hg, e => by
    have many := bk_ownL (S := S) (T := T) (b := b) (f := own d h) (fun b' g r h1 h0 h2 => bk_own hc hb d b' g r h1 h0 h2)
    unfold own at e
    split at e
    · simp only [obsi] at e
      obtain ⟨cs, h1, e⟩ := e
      obtain ⟨h3, h4⟩ := hc.at hg h1
      split at e
      · simp only [obsi, Option.some.injEq] at e
        obtain ⟨q, h2, rfl⟩ := e
        obtain ⟨a1, a2⟩ := many _ _ _ (Nat.le_succ_of_le hb') h3.drop.take h2
        exact ⟨hb _ hb', fun cs h => by rcases List.mem_cons.1 h with rfl | h; exact a1; exact a2 cs h⟩
      · cases e
    · simp only [obsi, Option.some.injEq] at e
      obtain ⟨q, h2, rfl⟩ := e
      obtain ⟨a1, a2⟩ := many _ _ _ hb' hg h2
      exact ⟨a1, a2⟩
    · simp only [obsi, Option.some.injEq] at e
      obtain ⟨q, h2, rfl⟩ := e
      obtain ⟨a1, a2⟩ := many _ _ _ hb' hg h2
      exact ⟨a1, a2⟩
    · cases e
    · cases e
    · cases e
    · cases e; exact ⟨trivial, fun cs h => by cases h⟩
    · cases e
    · rename_i x1 x2 x3 x4 x5 x6 x7 x8
      cases e
      refine ⟨?_, fun cs h => by cases h⟩
      cases g <;> first | trivial | exact hg | (exfalso; exact x1 _ _ _ _ _ rfl) | (exfalso; simp_all; done)

def CReach (call : GCall) : Prop := ∀ (S : Nat → Prop) f args h v h' lg, (∀ i, h.length ≤ i → S i) → Bks S args → HC S h → call f args h = some (v, h', lg) → Rch S h v h' lg
def XReach (C : Cfg) : Prop := ∀ f e xs v, C.ext f = some e → e xs = some v → Bk NB v
class XR (C : Cfg) : Prop where
  x : XReach C

theorem HC.nil : HC S [] := fun i cs _ e => by simp at e
theorem bk_callee (hX : XReach C) (hC : CReach call) {g : FuncId} {args : List GV} (hn : ∀ i, h.length ≤ i → S i) (ha : Bks S args) (hc : HC S h) (e : gcallee P C call g args h = some (v, h', lg)) : Rch S h v h' lg := by
  unfold gcallee at e
  split at e
  · cases e
  · split at e
    · split at e
      · rename_i e' he'
        simp only [Option.bind_eq_bind, obsi, Option.some.injEq, Prod.mk.injEq] at e
        obtain ⟨xs, h1, v', h2, rfl, rfl, rfl⟩ := e
        exact .same hc (hX _ _ _ _ he' h2).to (bors_ls hc h1 ha)
      · split at e
        · split at e
          · split at e
            · simp only [Option.some.injEq, Prod.mk.injEq] at e
              obtain ⟨rfl, rfl, rfl⟩ := e
              exact .nil hc trivial
            · cases e
          · exact hC _ _ _ _ _ _ _ hn ha hc e
        · split at e
          · simp only [Option.bind_eq_bind, obsi] at e
            obtain ⟨xs, h1, e⟩ := e
            have hr := bors_ls hc h1 ha
            have hb := bk_bors hc h1 ha
            split at e
            · split at e
              · simp only [Option.some.injEq, Prod.mk.injEq] at e
                obtain ⟨rfl, rfl, rfl⟩ := e
                exact .same hc (by trivial) hr
              · cases e
            simp only [obsi] at e
            obtain ⟨⟨v1, h1', _⟩, h2, ⟨v2, vis, bl⟩, h3, e⟩ := e
            have r1 := hC (fun _ => True) _ _ _ _ _ _ (fun _ _ => trivial) hb.tos .nil h2
            obtain ⟨a1, a2⟩ := bk_own (T := S) (b := h.length) r1.hc hn 9 _ _ _ (Nat.le_refl _) r1.v h3
            split at e
            · simp only [Option.some.injEq, Prod.mk.injEq] at e
              obtain ⟨rfl, rfl, rfl⟩ := e
              exact ⟨a1, hc.app a2, by simp, hr.mono (by simp), .nil⟩
            · cases e
          simp only [Option.bind_eq_bind, obsi, Option.some.injEq, Prod.mk.injEq] at e
          obtain ⟨xs, h1, ⟨v1, h1', _⟩, h2, ⟨v2, r2⟩, h3, rfl, rfl, rfl⟩ := e
          have r1 := hC (fun _ => True) _ _ _ _ _ _ (fun _ _ => trivial) (bk_bors hc h1 ha).tos .nil h2
          exact .same hc (bk_frz r1.hc 9 _ _ _ h3 r1.v).to (bors_ls hc h1 ha)
    · cases e

theorem bk_appz {t : TypeId} {s x : GV} (hn : ∀ i, h.length ≤ i → S i) (hc : HC S h) (e : gappz P h t s x = some (v, h', lg)) : Rch S h v h' lg := by
  unfold gappz at e
  simp only [Option.bind_eq_bind, obsi] at e
  obtain ⟨dd, hu, e⟩ := e
  split at e
  · simp only [obsi] at e
    obtain ⟨info, hi, z, hz, e⟩ := e
    split at e
    · split at e
      · split at e
        · simp only [Option.some.injEq, Prod.mk.injEq] at e; obtain ⟨rfl, rfl, rfl⟩ := e; exact .nil hc trivial
        · simp only [Option.some.injEq, Prod.mk.injEq] at e; obtain ⟨rfl, rfl, rfl⟩ := e; exact ⟨hn _ (Nat.le_refl _), hc.app1 (bk_zeros (bk_zero hz) _), by simp, .nil, .nil⟩
      · cases e
    · cases e
  · cases e

theorem bk_append {t : TypeId} {s x : GV} (hn : ∀ i, h.length ≤ i → S i) (hs : Bk S s) (hx : Bk S x) (hc : HC S h) (e : gappend P h t s x = some (v, h', lg)) : Rch S h v h' lg := by
  unfold gappend at e
  simp only [Option.bind_eq_bind, obsi] at e
  obtain ⟨dd, hu, e⟩ := e
  split at e
  · simp only [obsi] at e
    obtain ⟨info, hi, ⟨n, new, r⟩, hc', z, hz, e⟩ := e
    obtain ⟨b1, b2⟩ := bk_cells hc' hx hc
    split at e
    · split at e
      · split at e
        · simp only [Option.some.injEq, Prod.mk.injEq] at e; obtain ⟨rfl, rfl, rfl⟩ := e; exact .same hc (by trivial) b2
        · simp only [Option.some.injEq, Prod.mk.injEq] at e; obtain ⟨rfl, rfl, rfl⟩ := e; exact ⟨hn _ (Nat.le_refl _), hc.app1 b1, by simp, b2.mono (by simp), .nil⟩
      · split at e
        · simp only [Option.some.injEq, Prod.mk.injEq] at e; obtain ⟨rfl, rfl, rfl⟩ := e; exact .same hc (by trivial) b2
        · simp only [Option.some.injEq, Prod.mk.injEq] at e; obtain ⟨rfl, rfl, rfl⟩ := e; exact ⟨hn _ (Nat.le_refl _), hc.app1 b1, by simp, b2.mono (by simp), .nil⟩
      · simp only [obsi] at e
        obtain ⟨cs, hcs, e⟩ := e
        obtain ⟨c1, c2⟩ := hc.at hs hcs
        split at e
        · split at e
          · simp only [Option.some.injEq, Prod.mk.injEq] at e
            obtain ⟨rfl, rfl, rfl⟩ := e
            exact ⟨hs, hc.set (c1.splice b1), by simp, .cons ⟨hs, by simpa using c2⟩ (b2.mono (by simp)), .one hs (by simpa using c2)⟩
          · split at e
            · simp only [Option.some.injEq, Prod.mk.injEq] at e
              obtain ⟨rfl, rfl, rfl⟩ := e
              exact ⟨hs, hc.set (c1.take.app b1), by simp, .cons ⟨hs, by simpa using c2⟩ (b2.mono (by simp)), .one hs (by simpa using c2)⟩
            · cases e
        · cases e
      · cases e
    · cases e
  · cases e

theorem bk_copy {t : TypeId} {s x : GV} (hs : Bk S s) (hx : Bk S x) (hc : HC S h) (e : gcopy P h t s x = some (v, h', lg)) : Rch S h v h' lg := by
  unfold gcopy at e
  simp only [Option.bind_eq_bind, obsi] at e
  obtain ⟨dd, hu, e⟩ := e
  split at e
  · simp only [obsi] at e
    obtain ⟨es, hi, ⟨n, new, r⟩, hc', e⟩ := e
    obtain ⟨b1, b2⟩ := bk_cells hc' hx hc
    split at e
    · split at e
      · simp only [Option.some.injEq, Prod.mk.injEq] at e; obtain ⟨rfl, rfl, rfl⟩ := e; exact .same hc (by trivial) b2
      · simp only [Option.some.injEq, Prod.mk.injEq] at e; obtain ⟨rfl, rfl, rfl⟩ := e; exact .same hc (by trivial) b2
      · simp only [obsi] at e
        obtain ⟨cs, hcs, e⟩ := e
        obtain ⟨c1, c2⟩ := hc.at hs hcs
        split at e
        · simp only [Option.some.injEq, Prod.mk.injEq] at e
          obtain ⟨rfl, rfl, rfl⟩ := e
          exact ⟨trivial, hc.set (c1.splice b1.take), by simp, b2.mono (by simp), .one hs (by simpa using c2)⟩
        · cases e
      · cases e
    · cases e
  · cases e

theorem bk_clear {t : TypeId} {s : GV} (hs : Bk S s) (hc : HC S h) (e : gclear P h t s = some (v, h', lg)) : Rch S h v h' lg := by
  unfold gclear at e
  simp only [Option.bind_eq_bind, obsi] at e
  obtain ⟨dd, hu, e⟩ := e
  split at e
  · simp only [obsi] at e
    obtain ⟨z, hz, e⟩ := e
    split at e
    · simp only [Option.some.injEq, Prod.mk.injEq] at e; obtain ⟨rfl, rfl, rfl⟩ := e; exact .nil hc trivial
    · simp only [Option.some.injEq, Prod.mk.injEq] at e; obtain ⟨rfl, rfl, rfl⟩ := e; exact .nil hc trivial
    · simp only [obsi] at e
      obtain ⟨cs, hcs, e⟩ := e
      obtain ⟨c1, c2⟩ := hc.at hs hcs
      split at e
      · simp only [Option.some.injEq, Prod.mk.injEq] at e
        obtain ⟨rfl, rfl, rfl⟩ := e
        exact ⟨trivial, hc.set (c1.splice (bk_zeros (bk_zero hz) _)), by simp, .nil, .one hs (by simpa using c2)⟩
      · cases e
    · cases e
  · cases e
theorem bk_min {x y v : GV} (e : gmin x y = some v) : Bk S v := by
  unfold gmin at e
  split at e
  · cases e; trivial
  · cases e
theorem bk_max {x y v : GV} (e : gmax x y = some v) : Bk S v := by
  unfold gmax at e
  split at e
  · cases e; trivial
  · cases e
theorem bk_fold {f : GV → GV → Option GV} (hf : ∀ x y v, f x y = some v → Bk S v) : ∀ (l : List GV) (x v : GV), Bk S x → l.foldlM f x = some v → Bk S v
  | [], x, v, hx, e => by cases e; exact hx
  | y :: l, x, v, hx, e => by
    simp only [List.foldlM_cons, Option.bind_eq_bind, obsi] at e
    obtain ⟨z, h1, h2⟩ := e
    exact bk_fold hf l z v (hf _ _ _ h1) h2
theorem bk_builtin {b : Builtin} {ts : Array TypeId} {args : List GV} (hn : ∀ i, h.length ≤ i → S i) (ha : Bks S args) (hc : HC S h) (e : gbuiltin P b ts args h = some (v, h', lg)) : Rch S h v h' lg := by
  unfold gbuiltin at e
  split at e
  · simp only [Option.bind_eq_bind, obsi] at e
    obtain ⟨t, ht, e⟩ := e
    split at e
    · simp only [Option.some.injEq, Prod.mk.injEq] at e; obtain ⟨rfl, rfl, rfl⟩ := e; exact .nil hc trivial
    · split at e
      · cases e
      · simp only [obsi, Option.some.injEq, Prod.mk.injEq] at e
        obtain ⟨_, _, rfl, rfl, rfl⟩ := e
        exact .nil hc trivial
    · simp only [Option.some.injEq, Prod.mk.injEq] at e; obtain ⟨rfl, rfl, rfl⟩ := e; exact .nil hc trivial
    · cases e
  · simp only [Option.bind_eq_bind, obsi] at e
    obtain ⟨t, ht, e⟩ := e
    split at e
    · simp only [Option.some.injEq, Prod.mk.injEq] at e; obtain ⟨rfl, rfl, rfl⟩ := e; exact .nil hc trivial
    · simp only [Option.some.injEq, Prod.mk.injEq] at e; obtain ⟨rfl, rfl, rfl⟩ := e; exact .nil hc trivial
    · cases e
  · simp only [Option.bind_eq_bind, obsi, Option.some.injEq, Prod.mk.injEq] at e
    obtain ⟨_, h1, rfl, rfl, rfl⟩ := e
    exact .nil hc (bk_fold (fun _ _ _ e => bk_min e) _ _ _ ha.1 h1)
  · simp only [Option.bind_eq_bind, obsi, Option.some.injEq, Prod.mk.injEq] at e
    obtain ⟨_, h1, rfl, rfl, rfl⟩ := e
    exact .nil hc (bk_fold (fun _ _ _ e => bk_max e) _ _ _ ha.1 h1)
  · simp only [Option.bind_eq_bind, obsi] at e
    obtain ⟨t, ht, t', ht', e⟩ := e
    split at e
    · exact bk_appz hn hc e
    · exact bk_append hn ha.1 ha.2.1 hc e
    · cases e
  · simp only [Option.bind_eq_bind, obsi] at e
    obtain ⟨t, ht, e⟩ := e
    exact bk_copy ha.1 ha.2.1 hc e
  · simp only [Option.bind_eq_bind, obsi] at e
    obtain ⟨t, ht, e⟩ := e
    exact bk_clear ha.1 hc e
  · cases e
theorem bk_convert {s d : TypeId} {x : GV} (hn : ∀ i, h.length ≤ i → S i) (hx : Bk S x) (hc : HC S h) (e : gconvert P s d x h = some (v, h', lg)) : Rch S h v h' lg := by
  unfold gconvert at e
  split at e
  · simp only [Option.some.injEq, Prod.mk.injEq] at e; obtain ⟨rfl, rfl, rfl⟩ := e; exact .nil hc trivial
  · simp only [Option.some.injEq, Prod.mk.injEq] at e; obtain ⟨rfl, rfl, rfl⟩ := e; exact .nil hc trivial
  · split at e
    · simp only [Option.some.injEq, Prod.mk.injEq] at e; obtain ⟨rfl, rfl, rfl⟩ := e
      exact ⟨hn _ (Nat.le_refl _), hc.app1 (Bks_iff.2 fun g hg => by obtain ⟨b, _, rfl⟩ := List.mem_map.1 hg; trivial), by simp, .nil, .nil⟩
    · cases e
  · split at e
    · split at e
      · cases e
      · cases e
      · simp only [Option.bind_eq_bind, obsi] at e
        obtain ⟨⟨n, cs, r⟩, hc', ns, hns, e⟩ := e
        split at e
        · simp only [Option.some.injEq, Prod.mk.injEq] at e; obtain ⟨rfl, rfl, rfl⟩ := e; exact .same hc (by trivial) (bk_cells hc' hx hc).2
        · cases e
    · cases e
  · cases e
theorem bk_store {t : TypeId} {a x : GV} {i : Nat} (ha : Bk S a) (hx : Bk S x) (hc : HC S h) (e : gstore P h t a x = some (h', i)) : Rch S h .un h' ⟨[], [i]⟩ := by
  unfold gstore at e
  simp only [Option.bind_eq_bind, obsi] at e
  obtain ⟨n, hn, e⟩ := e
  split at e
  · split at e
    · simp only [obsi] at e
      obtain ⟨cs, hcs, e⟩ := e
      obtain ⟨c1, c2⟩ := hc.at ha hcs
      split at e
      · simp only [Option.some.injEq, Prod.mk.injEq] at e
        obtain ⟨rfl, rfl⟩ := e
        exact ⟨trivial, hc.set (c1.splice hx.cells), by simp, .nil, .one ha (by simpa using c2)⟩
      · cases e
    · cases e
  · cases e

theorem bk_globs {g : Nat} {cs : List GV} (e : globs g = some cs) : Bks NB cs := by
  unfold globs at e
  cases e
theorem bk_eval {σ : GS} (hσ : ∀ t, Bk S (σ t)) {x : Operand} {g : GV} (e : eval σ x = some g) : Bk S g := by
  unfold eval at e
  split at e
  · cases e; exact hσ _
  · exact bk_ofV e
  · cases e; trivial
  · obtain ⟨cs, h1, rfl⟩ := Option.map_eq_some_iff.1 e; exact bk_globs h1
theorem bk_op (hX : XReach C) (hC : CReach call) (hev : ∀ x g, ev x = some g → Bk S g) (hn : ∀ i, h.length ≤ i → S i) (hc : HC S h) (e : gop P C call ev o h = some (v, h', lg)) : Rch S h v h' lg := by
  have hevs : ∀ {l : List Operand} {gs : List GV}, l.mapM ev = some gs → Bks S gs := fun {l gs} e => mapM_bks e fun a _ b hb => hev _ _ hb
  unfold gop at e
  split at e
  · simp only [Option.bind_eq_bind, obsi, Option.some.injEq, Prod.mk.injEq] at e
    obtain ⟨_, h1, rfl, rfl, rfl⟩ := e; exact .nil hc (hev _ _ h1)
  · simp only [Option.bind_eq_bind, obsi, Option.some.injEq, Prod.mk.injEq] at e
    obtain ⟨_, h1, rfl, rfl, rfl⟩ := e; exact .nil hc (hev _ _ h1)
  · simp only [Option.bind_eq_bind, obsi] at e
    obtain ⟨_, _, e⟩ := e
    split at e
    · simp only [obsi, Option.some.injEq, Prod.mk.injEq] at e
      obtain ⟨x, h1, y, h2, rfl, rfl, rfl⟩ := e
      refine .nil hc ?_
      rename_i t _
      cases t
      · exact hev _ _ h2
      · exact hev _ _ h1
    · cases e
  · simp only [Option.bind_eq_bind, obsi, Option.some.injEq, Prod.mk.injEq] at e
    obtain ⟨z, hz, rfl, rfl, rfl⟩ := e; exact ⟨hn _ (Nat.le_refl _), hc.app1 (bk_zero hz), by simp, .nil, .nil⟩
  · simp only [Option.bind_eq_bind, obsi, Option.some.injEq, Prod.mk.injEq] at e
    obtain ⟨x, h1, rfl, rfl, rfl⟩ := e; exact ⟨hn _ (Nat.le_refl _), hc.app1 (hev _ _ h1).cells, by simp, .nil, .nil⟩
  · simp only [Option.bind_eq_bind, obsi] at e
    obtain ⟨z, hz, ps, hp, e⟩ := e
    split at e
    · simp only [obsi, Option.some.injEq, Prod.mk.injEq] at e
      obtain ⟨_, _, cs, h1, rfl, rfl, rfl⟩ := e; exact .nil hc (bk_fill h1 (bk_zero hz) (bk_parts hp hev))
    · simp only [obsi, Option.some.injEq, Prod.mk.injEq] at e
      obtain ⟨_, _, cs, h1, rfl, rfl, rfl⟩ := e; exact .nil hc (bk_fill h1 (bk_zero hz) (bk_parts hp hev))
    · cases e
  · simp only [Option.bind_eq_bind, obsi] at e
    obtain ⟨_, _, e⟩ := e
    split at e
    · simp only [obsi] at e
      obtain ⟨n, _, z, hz, ps, hp, e⟩ := e
      split at e
      · simp only [obsi] at e
        obtain ⟨cs, h1, e⟩ := e
        split at e
        · simp only [Option.some.injEq, Prod.mk.injEq] at e
          obtain ⟨rfl, rfl, rfl⟩ := e; exact .nil hc trivial
        · simp only [Option.some.injEq, Prod.mk.injEq] at e
          obtain ⟨rfl, rfl, rfl⟩ := e; exact ⟨hn _ (Nat.le_refl _), hc.app1 (bk_fill h1 (bk_zeros (bk_zero hz) _) (bk_parts hp hev)), by simp, .nil, .nil⟩
      · cases e
    · cases e
  · simp only [Option.bind_eq_bind, obsi, Option.some.injEq, Prod.mk.injEq] at e
    obtain ⟨a, h1, ⟨v1, r1⟩, h2, rfl, rfl, rfl⟩ := e
    obtain ⟨a1, a2⟩ := bk_load h2 (hev _ _ h1) hc
    exact .same hc a1 a2
  · simp only [Option.bind_eq_bind, obsi, Option.some.injEq, Prod.mk.injEq] at e
    obtain ⟨a, h1, x, h2, ⟨_, _⟩, hs, rfl, rfl, rfl⟩ := e
    exact bk_store (hev _ _ h1) (hev _ _ h2) hc hs
  · simp only [Option.bind_eq_bind, obsi] at e
    obtain ⟨a, h1, e⟩ := e
    have ha := hev _ _ h1
    split at e <;> first
      | (simp only [Option.some.injEq, Prod.mk.injEq] at e; obtain ⟨rfl, rfl, rfl⟩ := e; exact .nil hc ha)
      | cases e
  · simp only [Option.bind_eq_bind, obsi, Option.some.injEq, Prod.mk.injEq] at e
    obtain ⟨_, _, _, _, _, h1, rfl, rfl, rfl⟩ := e; exact .nil hc (bk_binop h1)
  · simp only [Option.bind_eq_bind, obsi] at e
    obtain ⟨_, _, e⟩ := e
    split at e <;> first
      | (simp only [Option.some.injEq, Prod.mk.injEq] at e; obtain ⟨rfl, rfl, rfl⟩ := e; exact .nil hc (by trivial))
      | cases e
  · simp only [Option.bind_eq_bind, obsi] at e
    obtain ⟨a, h1, e⟩ := e
    exact bk_convert hn (hev _ _ h1) hc e
  · simp only [Option.bind_eq_bind, obsi] at e
    obtain ⟨_, _, e⟩ := e
    split at e <;> first
      | (simp only [Option.some.injEq, Prod.mk.injEq] at e; obtain ⟨rfl, rfl, rfl⟩ := e; exact .nil hc (by trivial))
      | cases e
  · simp only [Option.bind_eq_bind, obsi] at e
    obtain ⟨cs, h1, e⟩ := e
    split at e
    · simp only [Option.some.injEq, Prod.mk.injEq] at e; obtain ⟨rfl, rfl, rfl⟩ := e; exact .nil hc (hevs h1)
    · cases e
  · simp only [Option.bind_eq_bind, obsi] at e
    obtain ⟨_, _, e⟩ := e
    split at e
    · simp only [obsi] at e
      obtain ⟨_, _, z, hz, _, _, e⟩ := e
      split at e
      · simp only [obsi] at e
        obtain ⟨_, _, e⟩ := e
        split at e
        · split at e
          · simp only [Option.some.injEq, Prod.mk.injEq] at e; obtain ⟨rfl, rfl, rfl⟩ := e; exact ⟨hn _ (Nat.le_refl _), hc.app1 (bk_zeros (bk_zero hz) _), by simp, .nil, .nil⟩
          · cases e
        · cases e
      · cases e
    · cases e
  · simp only [Option.bind_eq_bind, obsi] at e
    obtain ⟨a, h0, _, _, _, _, _, _, e⟩ := e
    have ha := hev _ _ h0
    split at e
    · simp only [obsi, Option.some.injEq, Prod.mk.injEq] at e
      obtain ⟨_, h1, rfl, rfl, rfl⟩ := e; exact .nil hc (bk_slice h1 ha)
    · split at e
      · simp only [obsi, Option.some.injEq, Prod.mk.injEq] at e
        obtain ⟨_, h1, rfl, rfl, rfl⟩ := e; exact .nil hc (bk_slice h1 ha)
      · cases e
    · split at e
      · simp only [obsi, Option.some.injEq, Prod.mk.injEq] at e
        obtain ⟨_, h1, rfl, rfl, rfl⟩ := e; exact .nil hc (bk_slice h1 ha)
      · cases e
    · simp only [obsi, Option.some.injEq, Prod.mk.injEq] at e
      obtain ⟨_, _, _, h1, rfl, rfl, rfl⟩ := e; exact .nil hc (bk_slice h1 ha)
    · simp only [obsi, Option.some.injEq, Prod.mk.injEq] at e
      obtain ⟨_, _, _, h1, rfl, rfl, rfl⟩ := e; exact .nil hc (bk_slice h1 ha)
    · cases e
  · simp only [Option.bind_eq_bind, obsi] at e
    obtain ⟨_, _, e⟩ := e
    split at e
    · simp only [obsi] at e
      obtain ⟨_, _, _, _, e⟩ := e
      split at e
      · cases e
      · simp only [obsi] at e
        obtain ⟨a, h1, e⟩ := e
        have ha := hev _ _ h1
        split at e
        · simp only [Option.some.injEq, Prod.mk.injEq] at e; obtain ⟨rfl, rfl, rfl⟩ := e; exact .nil hc ha
        · simp only [Option.some.injEq, Prod.mk.injEq] at e; obtain ⟨rfl, rfl, rfl⟩ := e
          have ha' : Bks NB _ := ha
          exact .nil hc ha'.drop
        · cases e
    · cases e
  · simp only [Option.bind_eq_bind, obsi] at e
    obtain ⟨_, _, e⟩ := e
    split at e
    · simp only [obsi] at e
      obtain ⟨_, _, a, h1, e⟩ := e
      have ha := hev _ _ h1
      split at e
      · simp only [obsi, Option.some.injEq, Prod.mk.injEq] at e
        obtain ⟨_, h1, rfl, rfl, rfl⟩ := e; exact .nil hc (bk_part h1 ha)
      · cases e
    · cases e
  · simp only [Option.bind_eq_bind, obsi] at e
    obtain ⟨a, h1, _, _, e⟩ := e
    have ha := hev _ _ h1
    split at e
    · split at e
      · split at e
        · simp only [Option.some.injEq, Prod.mk.injEq] at e; obtain ⟨rfl, rfl, rfl⟩ := e; exact .nil hc ha
        · cases e
      · split at e
        · simp only [Option.some.injEq, Prod.mk.injEq] at e; obtain ⟨rfl, rfl, rfl⟩ := e
          have ha' : Bks NB _ := ha
          exact .nil hc ha'.drop
        · cases e
      · obtain ⟨_, _, e⟩ := obsi.1 e
        split at e
        · simp only [Option.some.injEq, Prod.mk.injEq] at e; obtain ⟨rfl, rfl, rfl⟩ := e
          have ha' : Bks NB _ := ha
          exact .nil hc ha'.drop
        · cases e
      · obtain ⟨_, _, e⟩ := obsi.1 e
        split at e
        · simp only [Option.some.injEq, Prod.mk.injEq] at e; obtain ⟨rfl, rfl, rfl⟩ := e; exact .nil hc ha
        · cases e
      · cases e
    · cases e
  · simp only [Option.bind_eq_bind, obsi] at e
    obtain ⟨a, h1, _, _, e⟩ := e
    have ha := hev _ _ h1
    split at e
    · split at e
      · split at e
        · split at e
          · simp only [Option.some.injEq, Prod.mk.injEq] at e; obtain ⟨rfl, rfl, rfl⟩ := e; exact .nil hc trivial
          · cases e
        · cases e
      · simp only [obsi] at e
        obtain ⟨_, _, e⟩ := e
        split at e
        · simp only [obsi, Option.some.injEq, Prod.mk.injEq] at e
          obtain ⟨_, h1, rfl, rfl, rfl⟩ := e; exact .nil hc (bk_part h1 ha)
        · cases e
      · cases e
    · cases e
  · simp only [Option.bind_eq_bind, obsi] at e
    obtain ⟨a, h1, e⟩ := e
    have ha := hev _ _ h1
    split at e
    · simp only [obsi, Option.some.injEq, Prod.mk.injEq] at e
      obtain ⟨_, h1, rfl, rfl, rfl⟩ := e
      have ha' : Bks S _ := ha
      exact .nil hc (ha'.get h1)
    · cases e
  · split at e
    · simp only [Option.bind_eq_bind, obsi] at e
      obtain ⟨_, h1, e⟩ := e
      exact bk_builtin hn (hevs h1) hc e
    · simp only [Option.bind_eq_bind, obsi] at e
      obtain ⟨fv, h0, e⟩ := e
      split at e
      · simp only [obsi] at e
        obtain ⟨_, h1, e⟩ := e
        exact bk_callee hX hC hn ((hevs h1).app (hev _ _ h0)) hc e
      · cases e
    · cases e
  · cases e

theorem Rch.step {h1 : Heap} {v1 : GV} {lg1 lg2 : Lg} (a : Rch S h v1 h1 lg1) (b : Rch S h1 v h' lg2) : Rch S h v h' (lg1.add lg2) :=
  ⟨b.v, b.hc, Nat.le_trans a.len b.len, (a.r.mono b.len).app b.r, (a.w.mono b.len).app b.w⟩
theorem bk_upd {σ : GS} (hσ : ∀ t, Bk S (σ t)) {d : Option Tmp} (hv : Bk S v) : ∀ t, Bk S (upd σ d v t) := fun t => by
  unfold upd
  split
  · cases hb : Nat.beq t _ with
    | true => simpa [hb] using hv
    | false => simpa [hb] using hσ t
  · exact hσ t
theorem bk_ops {nt : Nat} {ops : Array Oper} (hX : XReach C) (hC : CReach call) : ∀ (l : List Nat) (σ : GS) (h : Heap) (σ' : GS) (h' : Heap) (recs : List Rec), (∀ i, h.length ≤ i → S i) → HC S h → (∀ t, Bk S (σ t)) → gops P C call nt ops l σ h = some (σ', h', recs) → Rch S h .un h' (logOf recs) ∧ ∀ t, Bk S (σ' t)
  | [], σ, h, σ', h', recs, hn, hc, hσ, e => by
    simp only [gops, Option.some.injEq, Prod.mk.injEq] at e
    obtain ⟨rfl, rfl, rfl⟩ := e
    exact ⟨.nil hc trivial, hσ⟩
  | j :: rest, σ, h, σ', h', recs, hn, hc, hσ, e => by
    unfold gops at e
    cases hj : ops[j]? with
    | none => rw [hj] at e; cases e
    | some o =>
      rw [hj] at e
      simp only at e
      split at e
      · split at e
        · simp only [Option.bind_eq_bind, obsi, Option.some.injEq, Prod.mk.injEq] at e
          obtain ⟨⟨v, h1, lg⟩, he, ⟨σ2, h2, recs2⟩, hr, rfl, rfl, rfl⟩ := e
          have r1 := bk_op hX hC (fun x g e => bk_eval hσ e) hn hc he
          obtain ⟨r2, s2⟩ := bk_ops hX hC rest _ _ _ _ _ (fun i hi => hn i (Nat.le_trans r1.len hi)) r1.hc (bk_upd hσ r1.v) hr
          exact ⟨r1.step r2, s2⟩
        · simp only [Option.bind_eq_bind, obsi, Option.some.injEq, Prod.mk.injEq] at e
          obtain ⟨⟨σ2, h2, recs2⟩, hr, rfl, rfl, rfl⟩ := e
          obtain ⟨r2, s2⟩ := bk_ops hX hC rest _ _ _ _ _ hn hc (bk_upd (v := .un) hσ trivial) hr
          exact ⟨(Rch.nil (v := .un) hc trivial).step r2, s2⟩
      · cases e
theorem bk_region {nt : Nat} {ops : Array Oper} (hX : XReach C) (hC : CReach call) {draw : Bool} {σ σ' : GS} (hn : ∀ i, h.length ≤ i → S i) (hc : HC S h) (hσ : ∀ t, Bk S (σ t)) (e : gregion P C call nt ops draw σ h = some (σ', h', lg)) : Rch S h .un h' lg ∧ ∀ t, Bk S (σ' t) := by
  unfold gregion at e
  simp only [Option.bind_eq_bind, obsi] at e
  obtain ⟨⟨σ1, h1, l⟩, hr, e⟩ := e
  have := bk_ops hX hC _ _ _ _ _ _ hn hc hσ hr
  split at e
  · split at e
    · simp only [Option.some.injEq, Prod.mk.injEq] at e
      obtain ⟨rfl, rfl, rfl⟩ := e
      exact this
    · cases e
  · simp only [Option.some.injEq, Prod.mk.injEq] at e
    obtain ⟨rfl, rfl, rfl⟩ := e
    exact this
theorem bk_loop {body : GS → Heap → GR} (hb : ∀ σ h x σ' h' lg, (∀ i, h.length ≤ i → S i) → HC S h → (∀ t, Bk S (σ t)) → body σ h = some (x, σ', h', lg) → Rch S h .un h' lg ∧ ∀ t, Bk S (σ' t)) : ∀ (k : Nat) (σ : GS) (h : Heap) (x : GX) (σ' : GS) (h' : Heap) (lg : Lg),
    (∀ i, h.length ≤ i → S i) → HC S h → (∀ t, Bk S (σ t)) → gloop body k σ h = some (x, σ', h', lg) → Rch S h .un h' lg ∧ ∀ t, Bk S (σ' t)
  | 0, σ, h, x, σ', h', lg, _, _, _, e => by cases e
  | k + 1, σ, h, x, σ', h', lg, hn, hc, hσ, e => by
    unfold gloop at e
    split at e
    · rename_i σ1 h1 l1 h0
      obtain ⟨⟨x2, σ2, h2, l2⟩, hr, e⟩ := Option.map_eq_some_iff.1 e
      simp only [Prod.mk.injEq] at e
      obtain ⟨rfl, rfl, rfl, rfl⟩ := e
      obtain ⟨r1, s1⟩ := hb _ _ _ _ _ _ hn hc hσ h0
      obtain ⟨r2, s2⟩ := bk_loop hb k _ _ _ _ _ _ (fun i hi => hn i (Nat.le_trans r1.len hi)) r1.hc s1 hr
      exact ⟨r1.step r2, s2⟩
    · exact hb _ _ _ _ _ _ hn hc hσ e
theorem bk_code {nt k : Nat} (hX : XReach C) (hC : CReach call) : ∀ (c : Code) (σ : GS) (h : Heap) (x : GX) (σ' : GS) (h' : Heap) (lg : Lg), (∀ i, h.length ≤ i → S i) → HC S h → (∀ t, Bk S (σ t)) → gcode P C call k nt c σ h = some (x, σ', h', lg) → Rch S h .un h' lg ∧ ∀ t, Bk S (σ' t)
  | .skip, σ, h, x, σ', h', lg, hn, hc, hσ, e => by
    simp only [gcode, Option.some.injEq, Prod.mk.injEq] at e
    obtain ⟨rfl, rfl, rfl, rfl⟩ := e
    exact ⟨.nil hc trivial, hσ⟩
  | .region id ops draw, σ, h, x, σ', h', lg, hn, hc, hσ, e => by
    simp only [gcode] at e
    obtain ⟨⟨σ2, h2, l2⟩, hr, e⟩ := Option.map_eq_some_iff.1 e
    simp only [Prod.mk.injEq] at e
    obtain ⟨rfl, rfl, rfl, rfl⟩ := e
    exact bk_region hX hC hn hc hσ hr
  | .seq a b, σ, h, x, σ', h', lg, hn, hc, hσ, e => by
    simp only [gcode] at e
    split at e
    · rename_i σ1 h1 l1 h0
      obtain ⟨⟨x2, σ2, h2, l2⟩, hr, e⟩ := Option.map_eq_some_iff.1 e
      simp only [Prod.mk.injEq] at e
      obtain ⟨rfl, rfl, rfl, rfl⟩ := e
      obtain ⟨r1, s1⟩ := bk_code hX hC a _ _ _ _ _ _ hn hc hσ h0
      obtain ⟨r2, s2⟩ := bk_code hX hC b _ _ _ _ _ _ (fun i hi => hn i (Nat.le_trans r1.len hi)) r1.hc s1 hr
      exact ⟨r1.step r2, s2⟩
    · exact bk_code hX hC a _ _ _ _ _ _ hn hc hσ e
  | .cond c a b, σ, h, x, σ', h', lg, hn, hc, hσ, e => by
    simp only [gcode] at e
    split at e
    · rename_i t ht
      cases t with
      | true => exact bk_code hX hC a _ _ _ _ _ _ hn hc hσ e
      | false => exact bk_code hX hC b _ _ _ _ _ _ hn hc hσ e
    · cases e
  | .block id c, σ, h, x, σ', h', lg, hn, hc, hσ, e => by
    simp only [gcode] at e
    split at e
    · rename_i id' σ1 h1 l1 h0
      split at e
      · simp only [Option.some.injEq, Prod.mk.injEq] at e
        obtain ⟨rfl, rfl, rfl, rfl⟩ := e
        exact bk_code hX hC c _ _ _ _ _ _ hn hc hσ h0
      · simp only [Option.some.injEq, Prod.mk.injEq] at e
        obtain ⟨rfl, rfl, rfl, rfl⟩ := e
        exact bk_code hX hC c _ _ _ _ _ _ hn hc hσ h0
    · exact bk_code hX hC c _ _ _ _ _ _ hn hc hσ e
  | .loop c, σ, h, x, σ', h', lg, hn, hc, hσ, e => by
    simp only [gcode] at e
    exact bk_loop (fun σ h x σ' h' lg hn hc hσ e => bk_code hX hC c σ h x σ' h' lg hn hc hσ e) _ _ _ _ _ _ _ hn hc hσ e
  | .exit id, σ, h, x, σ', h', lg, hn, hc, hσ, e => by
    simp only [gcode, Option.some.injEq, Prod.mk.injEq] at e
    obtain ⟨rfl, rfl, rfl, rfl⟩ := e
    exact ⟨.nil hc trivial, hσ⟩
  | .ret, σ, h, x, σ', h', lg, hn, hc, hσ, e => by
    simp only [gcode, Option.some.injEq, Prod.mk.injEq] at e
    obtain ⟨rfl, rfl, rfl, rfl⟩ := e
    exact ⟨.nil hc trivial, hσ⟩
  | .label l, σ, h, x, σ', h', lg, hn, hc, hσ, e => by
    simp only [gcode, Option.some.injEq, Prod.mk.injEq] at e
    obtain ⟨rfl, rfl, rfl, rfl⟩ := e
    exact ⟨.nil hc trivial, hσ⟩
  | .goto l, σ, h, x, σ', h', lg, _, _, _, e => by simp only [gcode] at e; cases e
  | .scope c, σ, h, x, σ', h', lg, _, _, _, e => by simp only [gcode] at e; cases e
  | .rangeFunc .., σ, h, x, σ', h', lg, _, _, _, e => by simp only [gcode] at e; cases e
theorem bk_result {σ : GS} (hσ : ∀ t, Bk S (σ t)) (hc : HC S h) {x : ResultVar} {y : GV × List Nat} (e : gresult P σ h x = some y) : Bk S y.1 ∧ LS S h.length y.2 := by
  unfold gresult at e
  split at e
  · cases e; exact ⟨hσ _, .nil⟩
  · exact bk_load e (hσ _) hc
theorem gcall_reach (hX : XReach C) : ∀ k, CReach (gcall P C k)
  | 0, S, f, args, h, v, h', lg, _, _, _, e => by cases e
  | k + 1, S, f, args, h, v, h', lg, hn, ha, hc, e => by
    unfold gcall at e
    split at e
    · cases e
    · split at e
      · cases e
      · split at e
        · cases e
        · rename_i x σ2 h2 l2 hx h0
          obtain ⟨⟨v', r⟩, hr, e⟩ := Option.map_eq_some_iff.1 e
          simp only [Prod.mk.injEq] at e
          obtain ⟨rfl, rfl, rfl⟩ := e
          obtain ⟨r1, s1⟩ := bk_code hX (gcall_reach hX k) _ _ _ _ _ _ _ hn hc (fun t => by
            show Bk S (args.getD t .un)
            rw [List.getD_eq_getElem?_getD]
            cases hg : args[t]? with
            | none => trivial
            | some g => exact ha.get hg) h0
          refine r1.step (v := v') ?_
          unfold gresults at hr
          simp only [Option.bind_eq_bind, obsi] at hr
          obtain ⟨vs, h1, hr⟩ := hr
          have hall := mapM_all (Q := fun y => Bk S y.1 ∧ LS S h2.length y.2) h1 fun a _ b hb => bk_result s1 r1.hc hb
          split at hr
          · cases hr
            obtain ⟨a1, a2⟩ := hall _ (List.mem_singleton.2 rfl)
            exact .same r1.hc a1 a2
          · cases hr
            have hb : Bks S (vs.map (·.1)) := Bks_iff.2 fun g hg => by
              obtain ⟨y, hy, rfl⟩ := List.mem_map.1 hg
              exact (hall y hy).1
            refine .same r1.hc (by exact hb) fun i hi => ?_
            · obtain ⟨l, hl, hi⟩ := List.mem_flatten.1 hi
              obtain ⟨y, hy, rfl⟩ := List.mem_map.1 hl
              exact (hall y hy).2 i hi
        · cases e
end
end Go.Proofs.Ytlbnioapepelnaa.G

namespace Go.Proofs.Ytlbnioapepelnaa.G
open Go.RowKit

abbrev NCall := FuncId → List GV → Option GV
abbrev HCall := FuncId → List GV → Heap → Option (GV × Heap)

def tr (want : Bool) : GV → Bool
  | .bool b => b == want
  | _ => false

def kread (h : Heap) (a : GV) (n : Nat) : Option (List GV) :=
  match a with
  | .ptr i off tot => (cellsAt h i tot).bind fun cs => if off + n ≤ cs.length then some ((cs.drop off).take n) else none
  | .fp _ cells => if n ≤ cells.length then some (cells.take n) else none
  | _ => none
def kloadA (n : Nat) (h : Heap) (a : GV) : Option GV := (kread h a n).map .agg
def one : List GV → Option GV
  | [v] => some v
  | _ => none
def kload1 (h : Heap) (a : GV) : Option GV := (kread h a 1).bind one
def kload (P : Program) (t : TypeId) (h : Heap) (a : GV) : Option GV :=
  match gagg P t with
  | some true => (match gsize P t with | some n => kloadA n h a | none => none)
  | some false => kload1 h a
  | none => none

def kstore (n : Nat) (h : Heap) (a v : GV) : Option Heap :=
  if v.cells.length = n ∧ v.cells.all GV.isCell = true then
    match a with
    | .ptr i off tot => (cellsAt h i tot).bind fun cs => if off + n ≤ cs.length then some (h.set i (splice cs off v.cells)) else none
    | _ => none
  else none

def knil : GV → Option GV
  | .ptr i off tot => some (.ptr i off tot)
  | .fp t cells => some (.fp t cells)
  | .fn f caps => some (.fn f caps)
  | _ => none

def kpick (c a b : GV) : Option GV :=
  match c with
  | .bool t => some (bif t then a else b)
  | _ => none

def kbin (op : BinOp) (x y : GV) : Option GV :=
  match op, x, y with
  | .shl, .int k a, .int _ b => if 0 ≤ b then some (.int k (k.wrap (a * 2 ^ (min b.toNat k.bits)))) else none
  | .shr, .int k a, .int _ b => if 0 ≤ b then some (.int k (a.fdiv (2 ^ (min b.toNat k.bits)))) else none
  | op, .int k a, .int k' b =>
    if k = k' then
      match op with
      | .add => some (.int k (k.wrap (a + b)))
      | .sub => some (.int k (k.wrap (a - b)))
      | .mul => some (.int k (k.wrap (a * b)))
      | .quo => if b = 0 then none else some (.int k (k.wrap (a.tdiv b)))
      | .rem => if b = 0 then none else some (.int k (a.tmod b))
      | .and => some (.int k (k.wrap (BitVec.ofInt k.bits a &&& BitVec.ofInt k.bits b).toNat))
      | .or => some (.int k (k.wrap (BitVec.ofInt k.bits a ||| BitVec.ofInt k.bits b).toNat))
      | .xor => some (.int k (k.wrap (BitVec.ofInt k.bits a ^^^ BitVec.ofInt k.bits b).toNat))
      | .andNot => some (.int k (k.wrap (BitVec.ofInt k.bits a &&& ~~~(BitVec.ofInt k.bits b)).toNat))
      | .eql => some (.bool (a == b))
      | .neq => some (.bool (a != b))
      | .lss => some (.bool (ilt a b))
      | .leq => some (.bool !(ilt b a))
      | .gtr => some (.bool (ilt b a))
      | .geq => some (.bool !(ilt a b))
      | _ => none
    else none
  | op, .str a, .str b =>
    match op with
    | .add => if a.size + b.size ≤ maxLen then some (.str (a ++ b)) else none
    | .eql => some (.bool (a.toList == b.toList))
    | .neq => some (.bool !(a.toList == b.toList))
    | .lss => some (.bool (Op.bytesLess a.toList b.toList))
    | .leq => some (.bool (Op.bytesLess a.toList b.toList || a.toList == b.toList))
    | .gtr => some (.bool !(Op.bytesLess a.toList b.toList || a.toList == b.toList))
    | .geq => some (.bool !(Op.bytesLess a.toList b.toList))
    | _ => none
  | _, _, _ => none

def keqB (op : BinOp) (x y : GV) : Option GV :=
  match op, x, y with
  | .eql, .bool a, .bool b => some (.bool (a == b))
  | .neq, .bool a, .bool b => some (.bool !(a == b))
  | _, _, _ => none

def keqS (P : Program) (op : BinOp) (t : TypeId) (x y : GV) : Option GV :=
  match x, y with
  | .agg xs, .agg ys =>
    match op with
    | .eql => (geq P Op.maxDepth t (.agg xs) (.agg ys)).map .bool
    | .neq => (geq P Op.maxDepth t (.agg xs) (.agg ys)).map fun b => .bool !b
    | _ => none
  | _, _ => none

def kbinop (P : Program) (op : BinOp) (t : TypeId) (xo yo : Operand) (x y : GV) : Option GV :=
  match P.underlying t with
  | some (.int _) => kbin op x y
  | some .string => kbin op x y
  | some .bool => keqB op x y
  | some (.struct _) => bif P.eqGuardType P.depth t then none else keqS P op t x y
  | _ => gbinop P op t xo yo x y

def kun (op : UnOp) (x : GV) : Option GV :=
  match op, x with
  | .neg, .int k n => some (.int k (k.wrap (0 - n)))
  | .not, .bool b => some (.bool !b)
  | _, _ => none

def kconvI (k : IntKind) : GV → Option GV
  | .int _ n => some (.int k (k.wrap n))
  | _ => none
def kstr : GV → Option ByteArray
  | .str s => some s
  | _ => none
def kbstr (h : Heap) (x : GV) : Option GV :=
  match x with
  | .str _ => none
  | .int _ _ => none
  | x => (gcells h 1 x).bind fun (n, cs, _) => (cs.mapM gbyte).bind fun ns => if ns.length = n then some (.str ⟨(ns.map fun n => UInt8.ofNat n.toNat).toArray⟩) else none
def kbytes (s : ByteArray) : List GV := s.toList.map fun c => .int .u8 c.toNat

def kslice (x : GV) (lo hi mx : Option GV) : Option GV := gslice default 0 x lo hi mx
def ksl (es : Nat) (x : GV) (lo hi mx : Option GV) : Option GV :=
  match x with
  | .sl i off len cap es' => if es = es' then kslice (.sl i off len cap es') lo hi mx else none
  | .fz tg n es' cells => if es = es' ∨ n = 0 then kslice (.fz tg n es' cells) lo hi mx else none
  | .nils => kslice .nils lo hi mx
  | .emp => kslice .emp lo hi mx
  | _ => none
def kslS (x : GV) (lo hi mx : Option GV) : Option GV := (kstr x).bind fun s => kslice (.str s) lo hi mx

def kfa (off : Nat) : GV → Option GV
  | .ptr i o tot => some (.ptr i (o + off) tot)
  | .fp t cells => some (.fp t (cells.drop off))
  | _ => none
def kcs : GV → Option (List GV)
  | .agg cs => some cs
  | _ => none
def kpartA (n off : Nat) (cs : List GV) : Option GV := if off + n ≤ cs.length then some (.agg ((cs.drop off).take n)) else none
def kpart1 (off : Nat) (cs : List GV) : Option GV := cs[off]?
def kpart (P : Program) (t : TypeId) (off : Nat) (cs : List GV) : Option GV :=
  match gagg P t with
  | some true => (match gsize P t with | some n => kpartA n off cs | none => none)
  | some false => kpart1 off cs
  | none => none
def kcap : GV → Option GV
  | .nils => some (.int .i64 0)
  | .emp => some (.int .i64 0)
  | _ => none
def kint : GV → Option Int
  | .int _ n => some n
  | _ => none
def kia (es : Nat) (a i : GV) : Option GV :=
  (kint i).bind fun i =>
  match a with
  | .sl b off len cap es' => if es = es' ∧ 0 ≤ i ∧ i < len then some (.ptr b (off + i.toNat * es) (off + cap * es)) else none
  | .fz tg n es' cells => if es = es' ∧ 0 ≤ i ∧ i < n then some (.fp tg (cells.drop (i.toNat * es))) else none
  | _ => none
def kbyte (a i : GV) : Option GV :=
  (kstr a).bind fun s => (kint i).bind fun i => if hi : i.toNat < s.size then (if 0 ≤ i then some (.int .u8 (s[i.toNat]'hi).toNat) else none) else none
def kxt (i : Nat) : GV → Option GV
  | .tup vs => vs[i]?
  | _ => none

def klenS (x : GV) : Option GV := (kstr x).bind fun s => some (.int .i64 s.size)
def klen : GV → Option GV
  | .str _ => none
  | x => (glen x).map fun (n : Nat) => GV.int .i64 (n : Int)

def kmake (z : List GV) (es bytes : Nat) (l c : GV) (h : Heap) : Option (GV × Heap) :=
  (kint l).bind fun len => (kint c).bind fun cap =>
  if 0 ≤ len ∧ len ≤ cap ∧ cap ≤ maxLen ∧ cap.toNat * bytes ≤ roomMax ∧ z.length = es then some (.sl h.length 0 len.toNat cap.toNat es, h ++ [zeros z cap.toNat]) else none

def kapp (z : List GV) (es bytes : Nat) (s x : GV) (h : Heap) : Option (GV × Heap) :=
  (gcells h es x).bind fun (n, new, _) =>
  if new.all GV.isCell = true ∧ z.length = es ∧ n ≤ maxLen ∧ n * bytes ≤ roomMax then
    match s with
    | .nils => if n = 0 then some (.nils, h) else some (.sl h.length 0 n n es, h ++ [new])
    | .emp => if n = 0 then some (.emp, h) else some (.sl h.length 0 n n es, h ++ [new])
    | .sl i off len cap es' =>
      (cellsAt h i (off + cap * es')).bind fun cs =>
      if es' = es ∧ len ≤ cap ∧ (len + n) * bytes ≤ roomMax ∧ len + n ≤ maxLen then
        if len + n ≤ cap then some (.sl i off (len + n) cap es, h.set i (splice cs (off + len * es) new))
        else if off = 0 ∧ 0 < es then some (.sl i 0 (len + n) (len + n) es, h.set i (cs.take (len * es) ++ new)) else none
      else none
    | _ => none
  else none

def kapz (z : List GV) (es bytes : Nat) (s x : GV) (h : Heap) : Option (GV × Heap) :=
  match s, x with
  | .nils, .int .i64 l =>
    if 0 ≤ l ∧ l ≤ maxLen ∧ l.toNat * bytes ≤ roomMax ∧ z.length = es then
      if l.toNat = 0 then some (.nils, h) else some (.sl h.length 0 l.toNat l.toNat es, h ++ [zeros z l.toNat])
    else none
  | _, _ => none

def kcopy (es : Nat) (d x : GV) (h : Heap) : Option (GV × Heap) :=
  (gcells h es x).bind fun (n, new, _) =>
  if new.all GV.isCell = true then
    match d with
    | .nils => some (.int .i64 0, h)
    | .emp => some (.int .i64 0, h)
    | .sl i off len cap es' =>
      (cellsAt h i (off + cap * es')).bind fun cs =>
      if es' = es ∧ len ≤ cap then some (.int .i64 (min n len : Nat), h.set i (splice cs off (new.take (min n len * es)))) else none
    | _ => none
  else none

def kclear (z : List GV) (d : GV) (h : Heap) : Option (GV × Heap) :=
  match d with
  | .nils => some (.un, h)
  | .emp => some (.un, h)
  | .sl i off len cap es =>
    (cellsAt h i (off + cap * es)).bind fun cs =>
    if z.length = es ∧ len ≤ cap ∧ z.all GV.isCell = true then some (.un, h.set i (splice cs off (zeros z len))) else none
  | _ => none

def bors (h : Heap) : List GV → Option (List GV)
  | [] => some []
  | g :: gs => (bor 9 h g).bind fun x => (bors h gs).bind fun xs => some (x.1 :: xs)

def kN (N : NCall) (f : FuncId) (args : List GV) (h : Heap) : Option GV := (bors h args).bind fun xs => N f xs

def evs (ev : Operand → Option GV) : List Operand → Option (List GV)
  | [] => some []
  | x :: xs => match ev x with | some v => (match evs ev xs with | some vs => some (v :: vs) | none => none) | none => none
def evm (ev : Operand → Option GV) : Option Operand → Option (Option GV)
  | some y => match ev y with | some v => some (some v) | none => none
  | none => some none
def evps (ev : Operand → Option GV) : List (Nat × Operand) → Option (List (Nat × GV))
  | [] => some []
  | (i, x) :: xs => match ev x with | some v => (match evps ev xs with | some vs => some ((i, v) :: vs) | none => none) | none => none
def placesOf (P : Program) : List Field → Option (List (Nat × Nat))
  | [] => some []
  | f :: fs => match gsize P f.type with | some n => (match placesOf P fs with | some l => some ((f.offset, n) :: l) | none => none) | none => none

section
variable {R : Type}

def ksplit (H : HCall) (g : FuncId) : Bool :=
  match H g [.nils] [], H g [.fz true 0 1 []] [] with
  | some (.nils, _), some (.emp, _) => true
  | _, _ => false
def kS (sp : Bool) (H : HCall) (g : FuncId) (args : List GV) (h : Heap) : Option (GV × Heap) :=
  bif sp then (bif emptyArg args then (bif ksplit H g then some (.emp, h) else none) else H g args h) else H g args h

def ownOk (r : GV × Heap) (b : Nat) : Option (GV × List (List GV)) :=
  (own 9 r.2 b r.1).bind fun q => bif nodupB (q.2.1.map (·.1)) then some (q.1, q.2.2) else none
def kF (sp : Bool) (H : HCall) (g : FuncId) (args : List GV) (h : Heap) : Option (GV × Heap) :=
  (bors h args).bind fun xs => bif sp && emptyArg xs then (bif ksplit H g then some (.emp, h) else none)
    else (H g xs []).bind fun r => (ownOk r h.length).bind fun q => some (q.1, h ++ q.2)

def kcallee (P : Program) (C : Cfg) (N : NCall) (H : HCall) (g : FuncId) (args : List GV) (h : Heap) (K : GV → Heap → Option R) : Option R :=
  match P.funcs[g]? with
  | none => none
  | some fn =>
    bif fn.body.isSome then
      (bif (C.heapy g && (C.ext g).isNone) then (kS (C.split g) H g args h).bind fun r => K r.1 r.2
       else bif (C.fresh g && (C.ext g).isNone) then (kF (C.split g) H g args h).bind fun r => K r.1 r.2
       else (kN N g args h).bind fun v => K v h)
    else none

def got {α : Type} (x : Option α) (K : α → Option R) : Option R :=
  match x with
  | some v => K v
  | none => none

def kop (P : Program) (C : Cfg) (N : NCall) (H : HCall) (ev : Operand → Option GV) (o : Oper) (h : Heap) (K : GV → Heap → Option R) : Option R :=
  match o.op with
  | .move x => got (ev x) fun v => K v h
  | .assign x => got (ev x) fun v => K v h
  | .pick c a b => got (ev c) fun c => got (ev a) fun a => got (ev b) fun b => (kpick c a b).bind fun v => K v h
  | .alloc e => got (gzero P e) fun z => K (.ptr h.length 0 z.length) (h ++ [z])
  | .box e x => got (ev x) fun v => K (.ptr h.length 0 v.cells.length) (h ++ [v.cells])
  | .build t parts => got (gzero P t) fun z => got (evps ev parts.toList) fun ps =>
    match P.underlying t with
    | some (.struct fs) => got (placesOf P fs.toList) fun places => (gfill (fun i => places[i]?) z ps).bind fun cs => K (.agg cs) h
    | some (.array _ e) => got (gsize P e) fun n => (gfill (fun i => some (i * n, n)) z ps).bind fun cs => K (.agg cs) h
    | _ => none
  | .buildSlice t len parts =>
    match P.underlying t with
    | some (.slice e) => got (gsize P e) fun n => got (gzero P e) fun z => got (evps ev parts.toList) fun ps =>
      bif Nat.ble (len * n) 16777216 && Nat.beq z.length n then (gfill (fun i => some (i * n, n)) (zeros z len) ps).bind fun cs =>
        (match len with
         | 0 => K .emp h
         | len + 1 => K (.sl h.length 0 (len + 1) (len + 1) n) (h ++ [cs])) else none
    | _ => none
  | .load t a => got (ev a) fun x => (kload P t h x).bind fun v => K v h
  | .store t a x => got (ev a) fun p => got (ev x) fun v => got (gsize P t) fun n => (kstore n h p v).bind fun h' => K .un h'
  | .nilCheck x => got (ev x) fun v => (knil v).bind fun v => K v h
  | .binOp op t x y _ => got (ev x) fun a => got (ev y) fun b => (kbinop P op t x y a b).bind fun v => K v h
  | .unOp op _ x => got (ev x) fun a => (kun op a).bind fun v => K v h
  | .convert s d x => got (ev x) fun a =>
    match P.underlying s, P.underlying d with
    | some (.int _), some (.int k) => (kconvI k a).bind fun v => K v h
    | some .string, some .string => (kstr a).bind fun b => K (.str b) h
    | some .string, some (.slice e) =>
      (match P.underlying e with
       | some (.int .u8) => (kstr a).bind fun b => K (.sl h.length 0 b.size b.size 1) (h ++ [kbytes b])
       | _ => none)
    | some (.slice e), some .string =>
      (match P.underlying e with
       | some (.int .u8) => (kbstr h a).bind fun v => K v h
       | _ => none)
    | _, _ => none
  | .makeInterface t x => got (ev x) fun _ =>
    match P.underlying t with
    | some (.interface _) => none
    | some _ => K .ifc h
    | none => none
  | .makeFunc (.func f) first caps => got (evs ev caps.toList) fun cs => bif Nat.beq first.size 0 then K (.fn f cs) h else none
  | .makeSlice t l c =>
    match P.underlying t with
    | some (.slice e) => got (P.info? e) fun info => got (gzero P e) fun z => got (ev l) fun l => got (ev c) fun c => (kmake z info.size info.bytes l c h).bind fun r => K r.1 r.2
    | _ => none
  | .slice t x lo hi mx => got (ev x) fun a => got (evm ev lo) fun l => got (evm ev hi) fun u => got (evm ev mx) fun m =>
    match P.underlying t with
    | some .string => (kslS a l u m).bind fun v => K v h
    | some (.slice e) => got (gsize P e) fun es => (ksl es a l u m).bind fun v => K v h
    | _ => none
  | .fieldAddr s x f =>
    match P.underlying s with
    | some (.struct fs) => got fs[f]? fun fd => got (gsize P fd.type) fun n => bif Nat.beq n 0 then none else got (ev x) fun a => (kfa fd.offset a).bind fun v => K v h
    | _ => none
  | .field t x f =>
    match P.underlying t with
    | some (.struct fs) => got fs[f]? fun fd => got (ev x) fun a => (kcs a).bind fun cs => (kpart P fd.type fd.offset cs).bind fun v => K v h
    | _ => none
  | .indexAddr t x ix => got (ev x) fun a => got (ev ix) fun i =>
    match P.underlying t with
    | some (.slice e) => got (gsize P e) fun es => (kia es a i).bind fun v => K v h
    | _ => none
  | .index t x ix => got (ev x) fun a => got (ev ix) fun i =>
    match P.underlying t with
    | some .string => (kbyte a i).bind fun v => K v h
    | some (.array len e) => got (gsize P e) fun n => (kcs a).bind fun cs => (kint i).bind fun i => if 0 ≤ i ∧ i < len then (kpart P e (i.toNat * n) cs).bind fun v => K v h else none
    | _ => none
  | .extract t i => got (ev t) fun a => (kxt i a).bind fun v => K v h
  | .call c =>
    match c.callee with
    | .builtin b => got (evs ev c.args.toList) fun args =>
      match b, args with
      | .len, [x] => got c.argTypes[0]? fun t =>
        (match P.underlying t with
         | some .string => (klenS x).bind fun v => K v h
         | some (.slice _) => (klen x).bind fun v => K v h
         | some (.array n _) => K (.int .i64 n) h
         | _ => none)
      | .cap, [x] => got c.argTypes[0]? fun t =>
        (match P.underlying t with
         | some (.slice _) => (kcap x).bind fun v => K v h
         | _ => none)
      | .min, [x, y] => (gmin x y).bind fun v => K v h
      | .max, [x, y] => (gmax x y).bind fun v => K v h
      | .min, [x, y, z] => (gmin x y).bind fun v => (gmin v z).bind fun v => K v h
      | .append, [s, x] => got c.argTypes[0]? fun t => got c.argTypes[1]? fun u =>
        (match P.underlying u with
         | some (.int _) =>
           (match P.underlying t with
            | some (.slice e) => got (P.info? e) fun info => got (gzero P e) fun z => (kapz z info.size info.bytes s x h).bind fun r => K r.1 r.2
            | _ => none)
         | some _ =>
           (match P.underlying t with
            | some (.slice e) => got (P.info? e) fun info => got (gzero P e) fun z => (kapp z info.size info.bytes s x h).bind fun r => K r.1 r.2
            | _ => none)
         | none => none)
      | .copy, [d, x] => got c.argTypes[0]? fun t =>
        (match P.underlying t with
         | some (.slice e) => got (gsize P e) fun es => (kcopy es d x h).bind fun r => K r.1 r.2
         | _ => none)
      | .clear, [d] => got c.argTypes[0]? fun t =>
        (match P.underlying t with
         | some (.slice e) => got (gzero P e) fun z => (kclear z d h).bind fun r => K r.1 r.2
         | _ => none)
      | _, _ => none
    | .value (.func g) => got (evs ev c.args.toList) fun args => kcallee P C N H g args h K
    | .value f => got (ev f) fun fv => got (evs ev c.args.toList) fun args =>
      (match fv with
       | .fn g caps => kcallee P C N H g (args ++ caps) h K
       | _ => none)
    | .invoke _ _ => none
  | _ => none

/-! Regions: operations under one guard, one behind the other, are taken together. -/
def guardEq : Option (Nat × Bool) → Option (Nat × Bool) → Bool
  | none, none => true
  | some (a, x), some (b, y) => Nat.beq a b && (x == y)
  | _, _ => false
def guardOf (ops : Array Oper) (j : Nat) : Option (Nat × Bool) := match ops[j]? with | some o => o.guard | none => none
def grp (ops : Array Oper) : List Nat → List (Option (Nat × Bool) × List Nat)
  | [] => []
  | j :: js =>
    match grp ops js with
    | (g, l) :: rest => bif guardEq (guardOf ops j) g then (g, j :: l) :: rest else (guardOf ops j, [j]) :: (g, l) :: rest
    | [] => [(guardOf ops j, [j])]

def dstEq : Option Tmp → Option Tmp → Bool
  | some a, some b => Nat.beq a b
  | _, _ => false
def dstOf (ops : Array Oper) (j : Nat) : Option Tmp := match ops[j]? with | some o => o.dst | none => none
def grpOk (ops : Array Oper) (gs : List (Option (Nat × Bool) × List Nat)) : Bool :=
  gs.all fun (g, js) => match g with | none => true | some (i, _) => js.all fun j => !dstEq (dstOf ops j) (dstOf ops i)

structure Eff where
  r : Bool
  w : Bool
  a : Bool
def effOf (C : Cfg) (o : Op) : Eff :=
  match o with
  | .load _ _ => ⟨true, false, false⟩
  | .store _ _ _ => ⟨false, true, false⟩
  | .alloc _ | .box _ _ | .buildSlice _ _ _ | .makeSlice _ _ _ => ⟨false, false, true⟩
  | .convert _ _ _ => ⟨true, false, true⟩
  | .call c =>
    match c.callee with
    | .builtin .append => ⟨true, true, true⟩
    | .builtin .copy => ⟨true, true, true⟩
    | .builtin .clear => ⟨true, true, true⟩
    | .builtin _ => ⟨false, false, false⟩
    | .value (.func f) => bif C.heapy f && (C.ext f).isNone then ⟨true, true, true⟩ else bif C.fresh f && (C.ext f).isNone then ⟨true, false, true⟩ else ⟨true, false, false⟩
    | _ => ⟨true, true, true⟩
  | _ => ⟨false, false, false⟩
def clash (a b : Eff) : Bool := (a.w && (b.r || b.w || b.a)) || (b.w && (a.r || a.w || a.a)) || (b.r && a.a)
def effAt (C : Cfg) (ops : Array Oper) (j : Nat) : Eff := match ops[j]? with | some o => effOf C o.op | none => ⟨true, true, true⟩
def statIn (C : Cfg) (ops : Array Oper) (m : List Nat) : List Nat → Bool
  | [] => true
  | a :: l => (l.all fun b => (m.getD b 0).testBit a || !clash (effAt C ops a) (effAt C ops b)) && statIn C ops m l
def statOk (C : Cfg) (ops : Array Oper) : Bool :=
  let m := masks ops
  slotsOk ops m && edgesOk ops && statIn C ops m (List.range ops.size)

/-! Where that does not settle it: what each of the operations in question touched is written down, and looked at in the end. -/
def kblk : GV → List Nat
  | .ptr i _ _ => [i]
  | .sl i _ _ _ _ => [i]
  | _ => []
def eblk (ev : Operand → Option GV) (x : Operand) : List Nat := match ev x with | some v => kblk v | none => []
def ebor (ev : Operand → Option GV) (h : Heap) (x : Operand) : List Nat := match ev x with | some v => (match bor 9 h v with | some y => y.2 | none => []) | none => []
def logOk0 (C : Cfg) (o : Op) : Bool :=
  match o with
  | .call c =>
    match c.callee with
    | .builtin _ => true
    | .value (.func f) => !(C.heapy f && (C.ext f).isNone)
    | _ => false
  | _ => true
def klog0 (ev : Operand → Option GV) (h : Heap) (o : Op) : Lg :=
  match o with
  | .load _ a => ⟨eblk ev a, []⟩
  | .store _ a _ => ⟨[], eblk ev a⟩
  | .convert _ _ x => ⟨eblk ev x, []⟩
  | .call c =>
    match c.callee with
    | .builtin .append => (match c.args.toList with | [s, x] => ⟨eblk ev s ++ eblk ev x, eblk ev s⟩ | _ => .nil)
    | .builtin .copy => (match c.args.toList with | [d, x] => ⟨eblk ev x, eblk ev d⟩ | _ => .nil)
    | .builtin .clear => (match c.args.toList with | [d] => ⟨[], eblk ev d⟩ | _ => .nil)
    | .value (.func _) => ⟨c.args.toList.flatMap (ebor ev h), []⟩
    | _ => .nil
  | _ => .nil
mutual
def nbi : GV → Bool
  | .ptr _ _ _ => false
  | .sl _ _ _ _ _ => false
  | .fp _ cs => nbs cs
  | .fz _ _ _ cs => nbs cs
  | .fn _ cs => nbs cs
  | .agg cs => nbs cs
  | .tup cs => nbs cs
  | .int _ _ => true
  | .bool _ => true
  | .str _ => true
  | .nilp => true
  | .nils => true
  | .emp => true
  | .nili => true
  | .ifc => true
  | .un => true
  | .dk _ => true
def nbs : List GV → Bool
  | [] => true
  | g :: gs => nbi g && nbs gs
end
def kcll (f : GV → Option (List Nat)) : List GV → Option (List Nat)
  | [] => some []
  | g :: gs => (f g).bind fun a => (kcll f gs).bind fun b => some (a ++ b)
def kcl : Nat → Heap → GV → Option (List Nat)
  | 0, _, g => bif nbi g then some [] else none
  | d + 1, h, .ptr i _ _ => (match h[i]? with | some cs => (kcll (kcl d h) cs).bind fun r => some (i :: r) | none => some [i])
  | d + 1, h, .sl i _ _ _ _ => (match h[i]? with | some cs => (kcll (kcl d h) cs).bind fun r => some (i :: r) | none => some [i])
  | d + 1, h, .agg cs => kcll (kcl d h) cs
  | d + 1, h, .tup cs => kcll (kcl d h) cs
  | d + 1, h, .fn _ cs => kcll (kcl d h) cs
  | _ + 1, _, g => bif nbi g then some [] else none
def kflat (h : Heap) (args : List GV) : Bool := (kcll (kcl 9 h) args).isSome
def kreach (h : Heap) (args : List GV) : List Nat := (kcll (kcl 9 h) args).getD []
def hcall (C : Cfg) (o : Op) : Option (List Operand) :=
  match o with
  | .call c =>
    match c.callee with
    | .value (.func f) => bif C.heapy f && (C.ext f).isNone then some c.args.toList else none
    | _ => none
  | _ => none
def klog (C : Cfg) (ev : Operand → Option GV) (h : Heap) (o : Op) : Lg :=
  match hcall C o with
  | some l => ⟨kreach h (l.map fun x => (ev x).getD .un), kreach h (l.map fun x => (ev x).getD .un)⟩
  | none => klog0 ev h o
def kfine (C : Cfg) (ev : Operand → Option GV) (h : Heap) (o : Op) : Bool :=
  match hcall C o with
  | some l => kflat h (l.map fun x => (ev x).getD .un)
  | none => true
def kchk {R : Type} (b : Bool) (x : Option R) : Option R := bif b then x else none
def logOk (C : Cfg) (o : Op) : Bool := logOk0 C o || (hcall C o).isSome
def badIn (C : Cfg) (ops : Array Oper) (m : List Nat) : List Nat → List (Nat × Nat)
  | [] => []
  | a :: l => (l.filter fun b => !(m.getD b 0).testBit a && clash (effAt C ops a) (effAt C ops b)).map (fun b => (a, b)) ++ badIn C ops m l
def badOf (C : Cfg) (ops : Array Oper) : List (Nat × Nat) := badIn C ops (masks ops) (List.range ops.size)
def inBad (bad : List (Nat × Nat)) (j : Nat) : Bool := bad.any fun p => Nat.beq p.1 j || Nat.beq p.2 j
def logAt (C : Cfg) (ops : Array Oper) (j : Nat) : Bool := match ops[j]? with | some o => logOk C o.op | none => false
def dynOk (C : Cfg) (ops : Array Oper) : Bool := slotsOk ops (masks ops) && edgesOk ops && (badOf C ops).all fun p => logAt C ops p.1 && logAt C ops p.2
def chk (bad : List (Nat × Nat)) (rs : List Rec) : Bool :=
  bad.all fun p => rs.all fun a => rs.all fun b => !(Nat.beq a.j p.1 && Nat.beq b.j p.2) || !meets a b

section
variable {R : Type}
def krunD (P : Program) (C : Cfg) (N : NCall) (H : HCall) (nt : Nat) (ops : Array Oper) (bad : List (Nat × Nat)) : List Nat → List Rec → GS → Heap → (List Rec → GS → Heap → Option R) → Option R
  | [], rs, σ, h, K => K rs σ h
  | j :: js, rs, σ, h, K =>
    match ops[j]? with
    | none => none
    | some o => bif dstOk nt o.dst then kchk (!inBad bad j || kfine C (eval σ) h o.op) (kop P C N H (eval σ) o h fun v h1 => krunD P C N H nt ops bad js (bif inBad bad j then rs ++ [⟨j, h.length, h1.length, klog C (eval σ) h o.op⟩] else rs) (upd σ o.dst v) h1 K) else none
end

def krun (P : Program) (C : Cfg) (N : NCall) (H : HCall) (nt : Nat) (ops : Array Oper) : List Nat → GS → Heap → (GS → Heap → Option R) → Option R
  | [], σ, h, K => K σ h
  | j :: js, σ, h, K =>
    match ops[j]? with
    | none => none
    | some o => bif dstOk nt o.dst then kop P C N H (eval σ) o h (fun v h1 => krun P C N H nt ops js (upd σ o.dst v) h1 K) else none
def kskip (nt : Nat) (ops : Array Oper) : List Nat → GS → Option GS
  | [], σ => some σ
  | j :: js, σ => match ops[j]? with
    | none => none
    | some o => bif dstOk nt o.dst then kskip nt ops js (upd σ o.dst .un) else none
def kwant (ops : Array Oper) (σ : GS) : Option (Nat × Bool) → Bool
  | none => true
  | some (j, want) => match dstOf ops j with | some d => tr want (σ d) | none => false
def kgroups (P : Program) (C : Cfg) (N : NCall) (H : HCall) (nt : Nat) (ops : Array Oper) : List (Option (Nat × Bool) × List Nat) → GS → Heap → (GS → Heap → Option R) → Option R
  | [], σ, h, K => K σ h
  | (none, js) :: rest, σ, h, K => krun P C N H nt ops js σ h fun σ h => kgroups P C N H nt ops rest σ h K
  | (some g, js) :: rest, σ, h, K => bif kwant ops σ (some g) then krun P C N H nt ops js σ h fun σ h => kgroups P C N H nt ops rest σ h K
    else got (kskip nt ops js σ) fun σ => kgroups P C N H nt ops rest σ h K

def kgroupsD (P : Program) (C : Cfg) (N : NCall) (H : HCall) (nt : Nat) (ops : Array Oper) (bad : List (Nat × Nat)) : List (Option (Nat × Bool) × List Nat) → List Rec → GS → Heap → (List Rec → GS → Heap → Option R) → Option R
  | [], rs, σ, h, K => K rs σ h
  | (none, js) :: rest, rs, σ, h, K => krunD P C N H nt ops bad js rs σ h fun rs σ h => kgroupsD P C N H nt ops bad rest rs σ h K
  | (some g, js) :: rest, rs, σ, h, K => bif kwant ops σ (some g) then krunD P C N H nt ops bad js rs σ h fun rs σ h => kgroupsD P C N H nt ops bad rest rs σ h K
    else got (kskip nt ops js σ) fun σ => kgroupsD P C N H nt ops bad rest rs σ h K

def kregion (P : Program) (C : Cfg) (N : NCall) (H : HCall) (nt : Nat) (ops : Array Oper) (draw : Bool) (σ : GS) (h : Heap) (K : GS → Heap → Option R) : Option R :=
  bif grpOk ops (grp ops (List.range ops.size)) && (!draw || statOk C ops) then kgroups P C N H nt ops (grp ops (List.range ops.size)) σ h K else
  bif grpOk ops (grp ops (List.range ops.size)) && dynOk C ops then kgroupsD P C N H nt ops (badOf C ops) (grp ops (List.range ops.size)) [] σ h (fun rs σ h => bif chk (badOf C ops) rs then K σ h else none) else none

def kloop (body : GS → Heap → (GX → GS → Heap → Option R) → Option R) : Nat → GS → Heap → (GX → GS → Heap → Option R) → Option R
  | 0, _, _, _ => none
  | k + 1, σ, h, K => body σ h fun x σ' h' => match x with | .nrm => kloop body k σ' h' K | x => K x σ' h'

def kcode (P : Program) (C : Cfg) (N : NCall) (H : HCall) (k nt : Nat) : Code → GS → Heap → (GX → GS → Heap → Option R) → Option R
  | .skip, σ, h, K => K .nrm σ h
  | .region _ ops draw, σ, h, K => kregion P C N H nt ops draw σ h fun σ h => K .nrm σ h
  | .seq a b, σ, h, K => kcode P C N H k nt a σ h fun x σ' h' => match x with | .nrm => kcode P C N H k nt b σ' h' K | x => K x σ' h'
  | .cond c x y, σ, h, K => got (eval σ c) fun v => match v with | .bool b => (bif b then kcode P C N H k nt x σ h K else kcode P C N H k nt y σ h K) | _ => none
  | .block id c, σ, h, K => kcode P C N H k nt c σ h fun x σ' h' => match x with | .ext id' => (bif Nat.beq id' id then K .nrm σ' h' else K (.ext id') σ' h') | x => K x σ' h'
  | .loop c, σ, h, K => kloop (fun σ h K => kcode P C N H k nt c σ h K) k σ h K
  | .exit id, σ, h, K => K (.ext id) σ h
  | .ret, σ, h, K => K .ret σ h
  | .label _, σ, h, K => K .nrm σ h
  | _, _, _, _ => none

def kres (P : Program) (σ : GS) (h : Heap) : List ResultVar → List GV → (GV → Option R) → Option R
  | [], [v], K => K v
  | [], vs, K => K (.tup vs)
  | .tmp t :: rest, acc, K => kres P σ h rest (acc ++ [σ t]) K
  | .cell a t :: rest, acc, K => (kload P t h (σ a)).bind fun v => kres P σ h rest (acc ++ [v]) K

def kfun (P : Program) (C : Cfg) (N : NCall) (H : HCall) (k : Nat) (f : FuncId) (args : List GV) (h : Heap) (fin : GV → Heap → Option R) : Option R :=
  match P.funcs[f]? with
  | none => none
  | some fn =>
    match fn.body with
    | none => none
    | some b => kcode P C N H k (max args.length fn.ntmps) b (fun t => args.getD t .un) h fun x σ h' => match x with
      | .ext _ => none
      | _ => kres P σ h' fn.results.toList [] fun v => fin v h'
end

end Go.Proofs.Ytlbnioapepelnaa.G
