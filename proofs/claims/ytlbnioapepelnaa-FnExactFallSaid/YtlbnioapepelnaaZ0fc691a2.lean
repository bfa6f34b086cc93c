/- Arguments that can be read as data, told to this machine: for each kind of value one lemma. More calls, more rounds: what was answered is answered sti -/
import Derived.Test.YtlbnioapepelnaaZ00ff35a8
import Derived.Deep.Slices
import Derived.ChangeOld
import Derived.ChangeArms
import Derived.Carry
import Derived.ShutString
import Derived.ProofKit
set_option linter.unusedSimpArgs false
set_option linter.unusedVariables false
namespace Go.Proofs.Ytlbnioapepelnaa.G
open Go.RowKit Go.ChangeShapes Go.WideShapes Go.Deep

abbrev Told (w : World) (gs : List GV) (cs : List Value) : Prop := VRs w E0 (fun _ => False) gs (fun c => c < w.heap.size) cs

structure Tells {α : Type} (P : Program) (t : TypeId) (mk : α → List GV) (I : α → Prop) : Prop where
  len : ∀ a, (mk a).length = P.cellsOf t
  op : ∀ {H : Type} (enc : TypeId × Value → H) (w : World) (fuel : Nat) (cs : List Value) (x : DataW H × List MemPlace),
    DataW.trod enc P w 0 (fun _ => true) true fuel t cs = some x → ∃ a : α, Told w (mk a) cs ∧ I a

theorem tells_int {P : Program} {t : TypeId} {k : IntKind} (ht : P.underlying t = some (.int k)) (hs : P.cellsOf t = 1) : Tells P t (fun n => [GV.int k n]) (fun n => (Lit.int k n).wf = true) :=
  ⟨fun _ => hs.symm, fun enc w fuel cs x hx => by
    obtain ⟨n, rfl, _, hw⟩ := DataW.trod_int ht hx
    exact ⟨n, ⟨_, _, rfl, rfl, rfl⟩, hw⟩⟩
theorem tells_string {P : Program} {t : TypeId} (ht : P.underlying t = some .string) (hs : P.cellsOf t = 1) : Tells P t (fun s => [GV.str s]) (fun s => s.size ≤ maxLen) :=
  ⟨fun _ => hs.symm, fun enc w fuel cs x hx => by
    obtain ⟨n, rfl, _, hw⟩ := DataW.trod_string ht hx
    exact ⟨n, ⟨_, _, rfl, rfl, rfl⟩, hw⟩⟩

theorem flat_len {α : Type} {f : α → List GV} {sz : Nat} (hf : ∀ a, (f a).length = sz) : ∀ xs : List α, (xs.flatMap f).length = xs.length * sz
  | [] => by simp
  | x :: xs => by rw [List.flatMap_cons, List.length_append, hf, flat_len hf xs, List.length_cons, Nat.add_mul]; omega
theorem flat_get {α : Type} {f : α → List GV} {sz : Nat} (hf : ∀ a, (f a).length = sz) : ∀ (xs : List α) (i r : Nat) (x : α), xs[i]? = some x → r < sz → (xs.flatMap f)[i * sz + r]? = (f x)[r]?
  | [], i, r, x, h, _ => by simp at h
  | y :: xs, 0, r, x, h, hr => by
    simp at h
    subst h
    rw [List.flatMap_cons, Nat.zero_mul, Nat.zero_add, List.getElem?_append_left (by rw [hf]; exact hr)]
  | y :: xs, i + 1, r, x, h, hr => by
    rw [List.flatMap_cons, List.getElem?_append_right (by rw [hf, Nat.add_mul]; omega), hf]
    rw [show (i + 1) * sz + r - sz = i * sz + r by rw [Nat.add_mul]; omega]
    exact flat_get hf xs i r x (by simpa using h) hr

theorem list_of {α : Type} {Q : Nat → α → Prop} : ∀ n : Nat, (∀ i, i < n → ∃ y, Q i y) → ∃ xs : List α, xs.length = n ∧ ∀ i y, xs[i]? = some y → Q i y
  | 0, _ => ⟨[], rfl, fun i y h => by simp at h⟩
  | k + 1, h => by
    obtain ⟨xs, h1, h2⟩ := list_of k (fun i hi => h i (by omega))
    obtain ⟨y, hy⟩ := h k (by omega)
    refine ⟨xs ++ [y], by simp [h1], fun i z hz => ?_⟩
    rcases Nat.lt_or_ge i xs.length with h | h
    · rw [List.getElem?_append_left h] at hz
      exact h2 i z hz
    · rw [List.getElem?_append_right h] at hz
      rcases Nat.eq_zero_or_pos (i - xs.length) with h0 | h0
      · rw [h0] at hz
        simp only [List.getElem?_cons_zero, Option.some.injEq] at hz
        subst hz
        have : i = k := by omega
        subst this
        exact hy
      · rw [List.getElem?_eq_none (by simp; omega)] at hz
        cases hz

def fzl {α : Type} (t : Bool) (es : Nat) (mk : α → List GV) (xs : List α) : GV :=
  match xs with
  | [] => mt
  | x :: xs => .fz t (xs.length + 1) es ((x :: xs).flatMap mk)
def mkSl {α : Type} (es : Nat) (mk : α → List GV) (xs : List α) : List GV := [fzl true es mk xs]
def inSl {α : Type} (I : α → Prop) (xs : List α) : Prop := xs.length ≤ maxLen ∧ ∀ x ∈ xs, I x

theorem tells_slice {α : Type} {P : Program} {t e : TypeId} {mk : α → List GV} {I : α → Prop} (ht : P.underlying t = some (.slice e)) (hs : P.cellsOf t = 1) (he : Tells P e mk I) : Tells P t (mkSl (P.cellsOf e) mk) (inSl I) :=
  ⟨fun a => by simp [mkSl, hs], fun enc w fuel cs x hx => by
    rcases open_slice ht hx with ⟨rfl, _⟩ | ⟨a, len, cap, m, n, D, Pl, rfl, _, hl, hm, hmm, _, hel⟩
    · exact ⟨[], ⟨_, _, rfl, .inl ⟨rfl, rfl, rfl, rfl⟩, rfl⟩, by simp [inSl]⟩
    · simp only [if_true] at hmm
      subst hmm
      have hall : ∀ i, i < len → ∃ y : α, I y ∧ ∃ cs', w.cells? 0 (a.add (i * P.cellsOf e)) (P.cellsOf e) = some cs' ∧ Told w (mk y) cs' := by
        intro i hi
        obtain ⟨cs', h1, h2⟩ := hel i (by omega)
        obtain ⟨y, h3, h4⟩ := he.op enc w n cs' _ h2
        exact ⟨y, h4, cs', h1, h3⟩
      obtain ⟨xs, hxl, hxs⟩ := list_of len hall
      subst hxl
      cases xs with
      | nil => exact ⟨[], ⟨_, _, rfl, .inr ⟨a, m, rfl, hl, rfl, fun hne => (hne rfl).elim⟩, rfl⟩, by simp [inSl]⟩
      | cons x0 xs0 =>
      generalize hxe : x0 :: xs0 = xs at *
      refine ⟨xs, ⟨_, _, rfl, ?_, rfl⟩, by omega, fun y hy => ?_⟩
      · have hfz : fzl true (P.cellsOf e) mk xs = .fz true xs.length (P.cellsOf e) (xs.flatMap mk) := by subst hxe; rfl
        rw [hfz]
        refine .inr ⟨a, m, rfl, hl, flat_len he.len xs, fun hne => ?_⟩
        clear hfz
        have cellAt : ∀ j, j < xs.length * P.cellsOf e → ∃ u, w.cell? (a.add j) = some u ∧ ∀ g, (xs.flatMap mk)[j]? = some g → VR w E0 (fun _ => False) g (fun c => c < w.heap.size) u := by
          intro j hj
          have hpos : 0 < P.cellsOf e := by
            rcases Nat.eq_zero_or_pos (P.cellsOf e) with h0 | h0
            · rw [h0] at hj; simp at hj
            · exact h0
          have hi : j / P.cellsOf e < xs.length := Nat.div_lt_of_lt_mul (by rw [Nat.mul_comm]; exact hj)
          have hr := Nat.mod_lt j hpos
          obtain ⟨_, cs', h1, h2⟩ := hxs _ _ (List.getElem?_eq_getElem hi)
          have hlen := VRs_len h2
          rw [he.len] at hlen
          have h6 := (World.cells?_some h1).2.2 (j % P.cellsOf e) hr
          rw [Go.Deep.add_add] at h6
          rw [show j / P.cellsOf e * P.cellsOf e + j % P.cellsOf e = j by rw [Nat.mul_comm]; exact Nat.div_add_mod ..] at h6
          rw [List.getElem?_eq_getElem (by omega : j % P.cellsOf e < cs'.length)] at h6
          refine ⟨cs'[j % P.cellsOf e]'(by omega), h6, fun g hg => ?_⟩
          have h7 := flat_get he.len xs (j / P.cellsOf e) (j % P.cellsOf e) _ (List.getElem?_eq_getElem hi) hr
          rw [show j / P.cellsOf e * P.cellsOf e + j % P.cellsOf e = j by rw [Nat.mul_comm]; exact Nat.div_add_mod ..] at h7
          rw [h7] at hg
          obtain ⟨u, q1, q2⟩ := VRs_get h2 _ g hg
          rw [List.getElem?_eq_getElem (by omega : j % P.cellsOf e < cs'.length)] at q1
          simp only [Option.some.injEq] at q1
          rw [q1]
          exact q2
        have hflen := flat_len he.len xs
        have hpos : 0 < xs.length * P.cellsOf e := by
          rw [← hflen]
          exact List.length_pos_iff.2 hne
        refine ⟨?_, (List.range (xs.length * P.cellsOf e)).map fun j => (w.cell? (a.add j)).getD undef, ?_, fun j u hj => ?_⟩
        · obtain ⟨u, hu, _⟩ := cellAt 0 hpos
          have := block_lt_of_cell hu
          rw [add_block] at this
          simpa using this
        · simp only [if_true]
          refine VRs_of (by simp [hflen]) fun j g u h1 h2 => ?_
          have hj : j < xs.length * P.cellsOf e := by
            have := (List.getElem?_eq_some_iff.1 h1).1
            omega
          obtain ⟨u', q1, q2⟩ := cellAt j hj
          rw [List.getElem?_map, List.getElem?_range hj, Option.map_some, q1] at h2
          simp only [Option.getD_some, Option.some.injEq] at h2
          rw [← h2]
          exact q2 g h1
        · have hj' : j < xs.length * P.cellsOf e := by
            have := (List.getElem?_eq_some_iff.1 hj).1
            simpa using this
          obtain ⟨u', q1, q2⟩ := cellAt j hj'
          rw [List.getElem?_map, List.getElem?_range hj', Option.map_some, q1] at hj
          simp only [Option.getD_some, Option.some.injEq] at hj
          rw [← hj]
          exact q1
      · obtain ⟨i, hi⟩ := List.getElem?_of_mem hy
        exact (hxs i y hi).1⟩

structure TellsAt {α : Type} (P : Program) (fs : List Field) (o sz : Nat) (mk : α → List GV) (I : α → Prop) : Prop where
  len : ∀ a, (mk a).length = sz
  op : ∀ {H : Type} (enc : TypeId × Value → H) (w : World) (fuel : Nat) (cs : List Value), o + sz ≤ cs.length →
    (∀ f ∈ fs, ∃ x, DataW.trod enc P w 0 (fun _ => true) true fuel f.type ((cs.drop f.offset).take (P.cellsOf f.type)) = some x) → ∃ a : α, Told w (mk a) ((cs.drop o).take sz) ∧ I a

theorem tells_last {α : Type} {P : Program} {f : Field} {mk : α → List GV} {I : α → Prop} (h : Tells P f.type mk I) : TellsAt P [f] f.offset (P.cellsOf f.type) mk I :=
  ⟨h.len, fun enc w fuel cs hl hf => by
    obtain ⟨x, hx⟩ := hf f (by simp)
    exact h.op enc w fuel _ x hx⟩

theorem tells_more {α β : Type} {P : Program} {f : Field} {fs : List Field} {sz : Nat} {mk : α → List GV} {mk' : β → List GV} {I : α → Prop} {J : β → Prop} (h : Tells P f.type mk I) (k : TellsAt P fs (f.offset + P.cellsOf f.type) sz mk' J) :
    TellsAt P (f :: fs) f.offset (P.cellsOf f.type + sz) (fun x : α × β => mk x.1 ++ mk' x.2) (fun x => I x.1 ∧ J x.2) :=
  ⟨fun a => by rw [List.length_append, h.len, k.len], fun enc w fuel cs hl hf => by
    obtain ⟨x, hx⟩ := hf f (by simp)
    obtain ⟨a, h1, h2⟩ := h.op enc w fuel _ x hx
    obtain ⟨b, h3, h4⟩ := k.op enc w fuel cs (by omega) (fun g hg => hf g (by simp [hg]))
    refine ⟨(a, b), ?_, h2, h4⟩
    rw [List.take_add, List.drop_drop]
    exact VRs_append h1 h3⟩

theorem tells_struct {α : Type} {P : Program} {t : TypeId} {fs : Array Field} {mk : α → List GV} {I : α → Prop} (ht : P.underlying t = some (.struct fs)) (h : TellsAt P fs.toList 0 (P.cellsOf t) mk I) : Tells P t mk I :=
  ⟨h.len, fun enc w fuel cs x hx => by
    obtain ⟨xs, n, rfl, _, hlen, hxl, hall⟩ := DataW.trod_struct ht hx
    obtain ⟨a, h1, h2⟩ := h.op enc w n cs (by omega) (fun f hf => by
      obtain ⟨i, hi⟩ := List.getElem?_of_mem hf
      have hi' : fs[i]? = some f := by simpa using hi
      have hlt : i < xs.length := by
        have := (Array.getElem?_eq_some_iff.1 hi').1
        omega
      exact ⟨xs[i], by rw [hall i f hi', List.getElem?_eq_getElem hlt]⟩)
    refine ⟨a, ?_, h2⟩
    have e : (cs.drop 0).take (P.cellsOf t) = cs := by rw [List.drop_zero, List.take_of_length_le (by omega)]
    rwa [e] at h1⟩

end Go.Proofs.Ytlbnioapepelnaa.G

namespace Go.Proofs.Ytlbnioapepelnaa.G
open Go.RowKit

def Le (c c' : GCall) : Prop := ∀ f args h r, c f args h = some r → c' f args h = some r

section
variable {P : Program} {C : Cfg} {c c' : GCall} {nt : Nat}

theorem gsplit_mono (hc : Le c c') {g : FuncId} (e : gsplit c g = true) : gsplit c' g = true := by
  unfold gsplit at e ⊢
  split at e
  · rename_i h1 l1 h2 l2 e1 e2
    rw [hc _ _ _ _ e1, hc _ _ _ _ e2]
  · cases e

theorem gcallee_mono (hc : Le c c') {g : FuncId} {args : List GV} {h : Heap} {r : GV × Heap × Lg} (e : gcallee P C c g args h = some r) : gcallee P C c' g args h = some r := by
  unfold gcallee at e ⊢
  split at e
  · cases e
  · rename_i fn hfn
    try simp only [hfn]
    split at e
    · rename_i hb
      rw [if_pos hb]
      split at e
      · rename_i ex hex
        try simp only [hex]
        exact e
      · rename_i hex
        try simp only [hex]
        split at e
        · rename_i hh
          rw [if_pos hh]
          split at e
          · rename_i hsp
            rw [if_pos hsp]
            split at e
            · rename_i hgs
              rw [if_pos (gsplit_mono hc hgs)]
              exact e
            · cases e
          · rename_i hsp
            rw [if_neg hsp]
            exact hc _ _ _ _ e
        · rename_i hh
          rw [if_neg hh]
          split at e
          · rename_i hfr
            rw [if_pos hfr]
            simp only [Option.bind_eq_bind, obsi] at e ⊢
            obtain ⟨xs, hxs, e⟩ := e
            refine ⟨xs, hxs, ?_⟩
            split at e
            · rename_i hsp
              rw [if_pos hsp]
              split at e
              · rename_i hgs
                rw [if_pos (gsplit_mono hc hgs)]
                exact e
              · cases e
            rename_i hsp
            rw [if_neg hsp]
            simp only [obsi] at e ⊢
            obtain ⟨y, hy, rest⟩ := e
            exact ⟨y, hc _ _ _ _ hy, rest⟩
          rename_i hfr
          rw [if_neg hfr]
          simp only [Option.bind_eq_bind, obsi] at e ⊢
          obtain ⟨xs, hxs, y, hy, rest⟩ := e
          exact ⟨xs, hxs, y, hc _ _ _ _ hy, rest⟩
    · cases e

theorem gop_mono (hc : Le c c') {ev : Operand → Option GV} {o : Oper} {h : Heap} {r : GV × Heap × Lg} (e : gop P C c ev o h = some r) : gop P C c' ev o h = some r := by
  cases ho : o.op with
  | call cl =>
    simp only [gop, ho] at e ⊢
    cases hk : cl.callee with
    | builtin b => rw [hk] at e; exact e
    | value f =>
      rw [hk] at e
      simp only [Option.bind_eq_bind, obsi] at e ⊢
      obtain ⟨v, hv, e⟩ := e
      refine ⟨v, hv, ?_⟩
      split at e
      · simp only [obsi] at e ⊢
        obtain ⟨gs, has, e⟩ := e
        exact ⟨gs, has, gcallee_mono hc e⟩
      · cases e
    | invoke r m => rw [hk] at e; cases e
  | makeFunc f a b => cases f <;> (simp only [gop, ho] at e ⊢; exact e)
  | _ => simp only [gop, ho] at e ⊢; exact e

theorem gops_mono (hc : Le c c') {ops : Array Oper} : ∀ (l : List Nat) (σ : GS) (h : Heap) (r : GS × Heap × List Rec), gops P C c nt ops l σ h = some r → gops P C c' nt ops l σ h = some r
  | [], σ, h, r, e => e
  | j :: rest, σ, h, r, e => by
    unfold gops at e ⊢
    cases hj : ops[j]? with
    | none => rw [hj] at e; cases e
    | some o =>
      rw [hj] at e
      simp only at e ⊢
      split at e
      · rename_i hd
        rw [if_pos hd]
        split at e
        · rename_i hw
          rw [if_pos hw]
          simp only [Option.bind_eq_bind, obsi] at e ⊢
          obtain ⟨x, hx, y, hy, rest'⟩ := e
          exact ⟨x, gop_mono hc hx, y, gops_mono hc rest _ _ _ hy, rest'⟩
        · rename_i hw
          rw [if_neg hw]
          simp only [Option.bind_eq_bind, obsi] at e ⊢
          obtain ⟨y, hy, rest'⟩ := e
          exact ⟨y, gops_mono hc rest _ _ _ hy, rest'⟩
      · cases e

theorem gregion_mono (hc : Le c c') {ops : Array Oper} {draw : Bool} {σ : GS} {h : Heap} {r : GS × Heap × Lg} (e : gregion P C c nt ops draw σ h = some r) : gregion P C c' nt ops draw σ h = some r := by
  unfold gregion at e ⊢
  simp only [Option.bind_eq_bind, obsi] at e ⊢
  obtain ⟨x, hx, e⟩ := e
  exact ⟨x, gops_mono hc _ _ _ _ hx, e⟩

theorem gloop_mono {b b' : GS → Heap → GR} (hb : ∀ σ h r, b σ h = some r → b' σ h = some r) : ∀ (k k' : Nat) (σ : GS) (h : Heap) (r : GX × GS × Heap × Lg), k ≤ k' → gloop b k σ h = some r → gloop b' k' σ h = some r
  | 0, k', σ, h, r, _, e => by cases e
  | k + 1, 0, σ, h, r, hk, e => by omega
  | k + 1, k' + 1, σ, h, r, hk, e => by
    unfold gloop at e ⊢
    split at e
    · rename_i σ1 h1 l1 h0
      rw [hb _ _ _ h0]
      obtain ⟨x, hx, e⟩ := Option.map_eq_some_iff.1 e
      exact Option.map_eq_some_iff.2 ⟨x, gloop_mono hb k k' _ _ _ (by omega) hx, e⟩
    · rename_i hne
      rw [hb _ _ _ e]
      obtain ⟨x, σ1, h1, l1⟩ := r
      cases x with
      | nrm => exact (hne _ _ _ e).elim
      | _ => rfl

theorem gcode_mono (hc : Le c c') {k k' : Nat} (hk : k ≤ k') : ∀ (x : Code) (σ : GS) (h : Heap) (r : GX × GS × Heap × Lg), gcode P C c k nt x σ h = some r → gcode P C c' k' nt x σ h = some r
  | .skip, σ, h, r, e => e
  | .region id ops draw, σ, h, r, e => by
    simp only [gcode] at e ⊢
    obtain ⟨y, hy, e⟩ := Option.map_eq_some_iff.1 e
    exact Option.map_eq_some_iff.2 ⟨y, gregion_mono hc hy, e⟩
  | .seq a b, σ, h, r, e => by
    simp only [gcode] at e ⊢
    split at e
    · rename_i σ1 h1 l1 h0
      rw [gcode_mono hc hk a _ _ _ h0]
      obtain ⟨y, hy, e⟩ := Option.map_eq_some_iff.1 e
      exact Option.map_eq_some_iff.2 ⟨y, gcode_mono hc hk b _ _ _ hy, e⟩
    · rename_i hne
      rw [gcode_mono hc hk a _ _ _ e]
      obtain ⟨x, σ1, h1, l1⟩ := r
      cases x with
      | nrm => exact (hne _ _ _ e).elim
      | _ => rfl
  | .cond o a b, σ, h, r, e => by
    simp only [gcode] at e ⊢
    split at e
    · rename_i t ht
      cases t with
      | true => exact gcode_mono hc hk a _ _ _ e
      | false => exact gcode_mono hc hk b _ _ _ e
    · cases e
  | .block id a, σ, h, r, e => by
    simp only [gcode] at e ⊢
    split at e
    · rename_i id' σ1 h1 l1 h0
      rw [gcode_mono hc hk a _ _ _ h0]
      exact e
    · rename_i hne
      rw [gcode_mono hc hk a _ _ _ e]
      obtain ⟨x, σ1, h1, l1⟩ := r
      cases x with
      | ext id => exact (hne _ _ _ _ e).elim
      | _ => rfl
  | .loop a, σ, h, r, e => by
    simp only [gcode] at e ⊢
    exact gloop_mono (fun σ h r e => gcode_mono hc hk a σ h r e) _ _ _ _ _ hk e
  | .exit id, σ, h, r, e => e
  | .ret, σ, h, r, e => e
  | .label l, σ, h, r, e => e
  | .goto l, σ, h, r, e => by simp only [gcode] at e; cases e
  | .scope a, σ, h, r, e => by simp only [gcode] at e; cases e
  | .rangeFunc .., σ, h, r, e => by simp only [gcode] at e; cases e

def gfun (P : Program) (C : Cfg) (c : GCall) (k : Nat) : GCall := fun f args h =>
  match P.funcs[f]? with
  | none => none
  | some fn =>
    match fn.body with
    | none => none
    | some b =>
      match gcode P C c k (max args.length fn.ntmps) b (fun t => args.getD t .un) h with
      | some (.ext _, _, _, _) => none
      | some (_, σ, h', l) => (gresults P fn σ h').map fun (v, r) => (v, h', l.add ⟨r, []⟩)
      | none => none

theorem gcall_succ (k : Nat) : gcall P C (k + 1) = gfun P C (gcall P C k) k := rfl

theorem gfun_mono (hc : Le c c') {k k' : Nat} (hk : k ≤ k') : Le (gfun P C c k) (gfun P C c' k') := by
  intro f args h r e
  unfold gfun at e ⊢
  split at e
  · cases e
  · rename_i fn hfn
    try simp only [hfn]
    split at e
    · cases e
    · rename_i b hb
      try simp only [hb]
      split at e
      · cases e
      · rename_i x σ h' l hne h0
        rw [gcode_mono hc hk b _ _ _ h0]
        cases x with
        | ext id => exact (hne _ rfl).elim
        | _ => exact e
      · cases e

theorem gcall_le : ∀ (k : Nat), Le (gcall P C k) (gcall P C (k + 1))
  | 0 => fun f args h r e => by cases e
  | k + 1 => by
    rw [gcall_succ, gcall_succ]
    exact gfun_mono (gcall_le k) (Nat.le_succ k)

theorem gcall_mono {k k' : Nat} (h : k ≤ k') : Le (gcall P C k) (gcall P C k') := by
  induction k' with
  | zero => rw [Nat.le_zero.1 h]; exact fun _ _ _ _ e => e
  | succ n ih =>
    rcases Nat.lt_or_ge k (n + 1) with h1 | h1
    · exact fun f args h r e => gcall_le n f args h r (ih (by omega) f args h r e)
    · rw [show k = n + 1 by omega]; exact fun _ _ _ _ e => e

end

end Go.Proofs.Ytlbnioapepelnaa.G

namespace Go.Proofs.Ytlbnioapepelnaa.G
open Go.RowKit

mutual
def Bki : GV → (Nat → Prop) → Prop
  | .ptr i _ _, S => S i
  | .sl i _ _ _ _, S => S i
  | .fp _ cs, S => Bksi cs fun _ => False
  | .fz _ _ _ cs, S => Bksi cs fun _ => False
  | .fn _ cs, S => Bksi cs S
  | .agg cs, S => Bksi cs S
  | .tup cs, S => Bksi cs S
  | .int _ _, S => True
  | .bool _, S => True
  | .str _, S => True
  | .nilp, S => True
  | .nils, S => True
  | .emp, S => True
  | .nili, S => True
  | .ifc, S => True
  | .un, S => True
  | .dk _, S => True
def Bksi : List GV → (Nat → Prop) → Prop
  | [], S => True
  | g :: gs, S => Bki g S ∧ Bksi gs S
end
abbrev Bk (S : Nat → Prop) (g : GV) : Prop := Bki g S
abbrev Bks (S : Nat → Prop) (l : List GV) : Prop := Bksi l S
mutual
theorem Bki.mono {S T : Nat → Prop} (hs : ∀ i, S i → T i) : ∀ (g : GV), Bki g S → Bki g T
  | .ptr i _ _, h => hs _ h
  | .sl i _ _ _ _, h => hs _ h
  | .fp _ cs, h => h
  | .fz _ _ _ cs, h => h
  | .fn _ cs, h => Bksi.mono hs cs h
  | .agg cs, h => Bksi.mono hs cs h
  | .tup cs, h => Bksi.mono hs cs h
  | .int _ _, h => trivial
  | .bool _, h => trivial
  | .str _, h => trivial
  | .nilp, h => trivial
  | .nils, h => trivial
  | .emp, h => trivial
  | .nili, h => trivial
  | .ifc, h => trivial
  | .un, h => trivial
  | .dk _, h => trivial
theorem Bksi.mono {S T : Nat → Prop} (hs : ∀ i, S i → T i) : ∀ (l : List GV), Bksi l S → Bksi l T
  | [], h => trivial
  | g :: gs, h => ⟨Bki.mono hs g h.1, Bksi.mono hs gs h.2⟩
end
abbrev NB : Nat → Prop := fun _ => False
section
variable {S : Nat → Prop} {P : Program} {C : Cfg} {call : GCall} {h h' : Heap} {v : GV} {lg : Lg} {ev : Operand → Option GV} {o : Oper}
theorem Bks_iff : ∀ {l : List GV}, Bks S l ↔ ∀ g ∈ l, Bk S g
  | [] => by simp [Bksi]
  | g :: l => by simp [Bksi]; intro _; exact Bks_iff (l := l)
theorem Bks.mem {l : List GV} (hl : Bks S l) {g : GV} (hg : g ∈ l) : Bk S g := Bks_iff.1 hl g hg
theorem Bks.sub {l m : List GV} (hl : Bks S l) (hm : ∀ g ∈ m, g ∈ l) : Bks S m := Bks_iff.2 fun g hg => hl.mem (hm g hg)
theorem Bks.app {l m : List GV} (hl : Bks S l) (hm : Bks S m) : Bks S (l ++ m) := Bks_iff.2 fun g hg => by rcases List.mem_append.1 hg with h | h; exact hl.mem h; exact hm.mem h
theorem Bks.drop {l : List GV} (hl : Bks S l) {n : Nat} : Bks S (l.drop n) := hl.sub fun g hg => List.mem_of_mem_drop hg
theorem Bks.take {l : List GV} (hl : Bks S l) {n : Nat} : Bks S (l.take n) := hl.sub fun g hg => List.mem_of_mem_take hg
theorem Bks.splice {l m : List GV} (hl : Bks S l) (hm : Bks S m) {o : Nat} : Bks S (splice l o m) := (hl.take.app hm).app hl.drop
theorem Bks.get {l : List GV} (hl : Bks S l) {n : Nat} {g : GV} (h : l[n]? = some g) : Bk S g := hl.mem (List.mem_of_getElem? h)
theorem Bk.cells {v : GV} (hv : Bk S v) : Bks S v.cells := by
  cases v <;> first | exact ⟨hv, trivial⟩ | (simp only [GV.cells]; simpa only [Bki] using hv)
theorem Bki.to {g : GV} (hg : Bk NB g) : Bk S g := Bki.mono (fun i h => h.elim) g hg
theorem Bksi.tos {l : List GV} (hg : Bks NB l) : Bks S l := Bksi.mono (fun i h => h.elim) l hg
theorem mapM_all {α β : Type} {f : α → Option β} {Q : β → Prop} : ∀ {l : List α} {ys : List β}, l.mapM f = some ys → (∀ a ∈ l, ∀ b, f a = some b → Q b) → ∀ b ∈ ys, Q b
  | [], ys, e, _, b, hb => by cases e; cases hb
  | a :: l, ys, e, hq, b, hb => by
    simp only [List.mapM_cons, Option.bind_eq_bind, obsi, Option.pure_def, Option.some.injEq] at e
    obtain ⟨y, h1, ys', h2, rfl⟩ := e
    rcases List.mem_cons.1 hb with rfl | hb
    · exact hq a (by simp) _ h1
    · exact mapM_all h2 (fun a ha => hq a (by simp [ha])) b hb
theorem mapM_bks {α : Type} {f : α → Option GV} {l : List α} {ys : List GV} (e : l.mapM f = some ys) (hq : ∀ a ∈ l, ∀ b, f a = some b → Bk S b) : Bks S ys := Bks_iff.2 (mapM_all e hq)
theorem bk_ofC {x : Value} {g : GV} (e : ofC x = some g) : Bk S g := by
  unfold ofC at e
  split at e <;> first | (cases e; done) | (cases e; trivial)
theorem bk_ofV {x : Value} {g : GV} (e : ofV x = some g) : Bk S g := by
  unfold ofV at e
  split at e
  · obtain ⟨ys, h1, rfl⟩ := Option.map_eq_some_iff.1 e
    exact mapM_bks h1 fun a _ b hb => bk_ofC hb
  · exact bk_ofC e
theorem bk_zero {t : TypeId} {z : List GV} (e : gzero P t = some z) : Bks S z := by
  unfold gzero at e
  simp only [Option.bind_eq_bind, obsi, Option.some.injEq] at e
  obtain ⟨i, _, x, _, g, h1, rfl⟩ := e
  exact (bk_ofV h1).cells
theorem bk_zeros {z : List GV} (hz : Bks S z) : ∀ n, Bks S (zeros z n)
  | 0 => trivial
  | n + 1 => hz.app (bk_zeros hz n)
theorem cellsAt_get {i tot : Nat} {cs : List GV} (e : cellsAt h i tot = some cs) : h[i]? = some cs := by
  unfold cellsAt at e
  split at e
  · rename_i cs' h1
    cases hb : Nat.beq cs'.length tot with
    | false => rw [hb] at e; cases e
    | true => rw [hb] at e; cases e; exact h1
  · cases e
def HC (S : Nat → Prop) (h : Heap) : Prop := ∀ i cs, S i → h[i]? = some cs → Bks S cs
theorem HC.at (hc : HC S h) {i tot : Nat} {cs : List GV} (hi : S i) (e : cellsAt h i tot = some cs) : Bks S cs ∧ i < h.length := ⟨hc i cs hi (cellsAt_get e), (List.getElem?_eq_some_iff.1 (cellsAt_get e)).1⟩
theorem HC.set (hc : HC S h) {i : Nat} {cs : List GV} (hs : Bks S cs) : HC S (h.set i cs) := fun j ds hj e => by
  by_cases hij : i = j
  · subst hij
    rw [List.getElem?_set] at e
    split at e
    · split at e
      · cases e; exact hs
      · cases e
    · exact hc _ _ hj e
  · rw [List.getElem?_set_ne hij] at e; exact hc _ _ hj e
theorem HC.app (hc : HC S h) {bl : List (List GV)} (hb : ∀ cs ∈ bl, Bks S cs) : HC S (h ++ bl) := fun j ds hj e => by
  rcases Nat.lt_or_ge j h.length with h1 | h1
  · rw [List.getElem?_append_left h1] at e; exact hc _ _ hj e
  · rw [List.getElem?_append_right h1] at e; exact hb _ (List.mem_of_getElem? e)
theorem HC.app1 (hc : HC S h) {cs : List GV} (hb : Bks S cs) : HC S (h ++ [cs]) := hc.app fun ds hd => by rw [List.mem_singleton.1 hd]; exact hb
def LS (S : Nat → Prop) (n : Nat) (l : List Nat) : Prop := ∀ i ∈ l, S i ∧ i < n
theorem LS.nil {n : Nat} : LS S n [] := fun i hi => by cases hi
theorem LS.mono {n m : Nat} {l : List Nat} (h : LS S n l) (hn : n ≤ m) : LS S m l := fun i hi => ⟨(h i hi).1, Nat.lt_of_lt_of_le (h i hi).2 hn⟩
theorem LS.app {n : Nat} {l m : List Nat} (h : LS S n l) (h' : LS S n m) : LS S n (l ++ m) := fun i hi => by rcases List.mem_append.1 hi with a | a; exact h i a; exact h' i a
theorem LS.one {n i : Nat} (hi : S i) (hn : i < n) : LS S n [i] := fun j hj => by rw [List.mem_singleton.1 hj]; exact ⟨hi, hn⟩
theorem LS.cons {n i : Nat} {l : List Nat} (hi : S i ∧ i < n) (hl : LS S n l) : LS S n (i :: l) := fun j hj => by rcases List.mem_cons.1 hj with rfl | hj; exact hi; exact hl j hj

structure Rch (S : Nat → Prop) (h : Heap) (v : GV) (h' : Heap) (lg : Lg) : Prop where
  v : Bk S v
  hc : HC S h'
  len : h.length ≤ h'.length
  r : LS S h'.length lg.r
  w : LS S h'.length lg.w
theorem Rch.same (hc : HC S h) (hv : Bk S v) {r : List Nat} (hr : LS S h.length r) : Rch S h v h ⟨r, []⟩ := ⟨hv, hc, Nat.le_refl _, hr, .nil⟩
theorem Rch.nil (hc : HC S h) (hv : Bk S v) : Rch S h v h .nil := ⟨hv, hc, Nat.le_refl _, .nil, .nil⟩

theorem bk_read {a : GV} {n : Nat} {cs : List GV} {r : List Nat} (e : gread h a n = some (cs, r)) (ha : Bk S a) (hc : HC S h) : Bks S cs ∧ LS S h.length r := by
  unfold gread at e
  split at e
  · simp only [Option.bind_eq_bind, obsi] at e
    obtain ⟨ds, h1, e⟩ := e
    obtain ⟨h2, h3⟩ := hc.at ha h1
    split at e
    · cases e; exact ⟨h2.drop.take, .one ha h3⟩
    · cases e
  · split at e
    · cases e; exact ⟨Bks.take (Bksi.tos ha), .nil⟩
    · cases e
  · cases e
theorem bk_load {t : TypeId} {a : GV} {r : List Nat} (e : gload P h t a = some (v, r)) (ha : Bk S a) (hc : HC S h) : Bk S v ∧ LS S h.length r := by
  unfold gload at e
  simp only [Option.bind_eq_bind, obsi] at e
  obtain ⟨b, _, e⟩ := e
  split at e
  · simp only [obsi, Option.some.injEq, Prod.mk.injEq] at e
    obtain ⟨n, _, ⟨cs, r'⟩, h1, rfl, rfl⟩ := e
    obtain ⟨h2, h3⟩ := bk_read h1 ha hc
    exact ⟨h2, h3⟩
  · simp only [obsi] at e
    obtain ⟨⟨cs, r'⟩, h1, e⟩ := e
    obtain ⟨h2, h3⟩ := bk_read h1 ha hc
    rcases cs with _ | ⟨c, _ | ⟨d, cs⟩⟩
    · cases e
    · cases e; exact ⟨h2.1, h3⟩
    · cases e
theorem bk_part {t : TypeId} {cs : List GV} {off : Nat} (e : gpart P t cs off = some v) (hc : Bks S cs) : Bk S v := by
  unfold gpart at e
  simp only [Option.bind_eq_bind, obsi] at e
  obtain ⟨b, _, e⟩ := e
  split at e
  · simp only [obsi] at e
    obtain ⟨n, _, e⟩ := e
    split at e
    · cases e; exact hc.drop.take
    · cases e
  · exact hc.get e
theorem bk_cells {es n : Nat} {x : GV} {cs : List GV} {r : List Nat} (e : gcells h es x = some (n, cs, r)) (hx : Bk S x) (hc : HC S h) : Bks S cs ∧ LS S h.length r := by
  unfold gcells at e
  split at e
  · simp only [Option.bind_eq_bind, obsi] at e
    obtain ⟨ds, h1, e⟩ := e
    obtain ⟨h2, h3⟩ := hc.at hx h1
    split at e
    · cases e; exact ⟨h2.drop.take, .one hx h3⟩
    · cases e
  · split at e
    · cases e; exact ⟨trivial, .nil⟩
    · split at e
      · cases e; exact ⟨Bksi.tos hx, .nil⟩
      · cases e
  · cases e; exact ⟨trivial, .nil⟩
  · cases e; exact ⟨trivial, .nil⟩
  · split at e
    · cases e
      exact ⟨Bks_iff.2 fun g hg => by obtain ⟨b, _, rfl⟩ := List.mem_map.1 hg; trivial, .nil⟩
    · cases e
  · cases e
theorem bk_slice {t : TypeId} {x : GV} {lo hi mx : Option GV} (e : gslice P t x lo hi mx = some v) (hx : Bk S x) : Bk S v := by
  unfold gslice at e
  simp only [Option.bind_eq_bind, obsi] at e
  obtain ⟨l, _, e⟩ := e
  split at e
  · cases e
  split at e
  · split at e
    · cases e
    · simp only [obsi] at e
      obtain ⟨_, _, e⟩ := e
      split at e
      · cases e; trivial
      · cases e
  · simp only [obsi] at e
    obtain ⟨_, _, _, _, e⟩ := e
    split at e
    · split at e
      · cases e; exact hx
      · split at e <;> (cases e; trivial)
    · cases e
  · simp only [obsi] at e
    obtain ⟨_, _, _, _, e⟩ := e
    split at e
    · cases e; trivial
    · cases e
  · simp only [obsi] at e
    obtain ⟨_, _, _, _, e⟩ := e
    split at e
    · split at e
      · cases e; trivial
      · cases e
        have hx' : Bks NB _ := hx
        exact hx'.drop.take
    · cases e
  · simp only [obsi] at e
    obtain ⟨_, _, _, _, e⟩ := e
    split at e
    · cases e; trivial
    · cases e
  · simp only [obsi] at e
    obtain ⟨_, _, _, _, e⟩ := e
    split at e
    · cases e; trivial
    · cases e
  · cases e
theorem bk_bin {op : BinOp} {t : TypeId} {x y : GV} (e : gbin P op t x y = some v) : Bk S v := by
  unfold gbin at e
  split at e
  · split at e <;> cases e; trivial
  · split at e <;> cases e; trivial
  · split at e
    · split at e <;> first | cases e; done | (cases e; trivial) | (split at e <;> first | cases e; done | (cases e; trivial))
    · cases e
  · split at e <;> first | cases e; done | (cases e; trivial) | (split at e <;> first | cases e; done | (cases e; trivial))
  · cases e
theorem bk_binop {op : BinOp} {t : TypeId} {xo yo : Operand} {x y : GV} (e : gbinop P op t xo yo x y = some v) : Bk S v := by
  unfold gbinop at e
  split at e
  · rename_i r hr
    cases e; exact bk_bin hr
  · split at e
    · split at e
      · obtain ⟨_, _, rfl⟩ := Option.map_eq_some_iff.1 e; trivial
      · obtain ⟨_, _, rfl⟩ := Option.map_eq_some_iff.1 e; trivial
      · cases e
    · cases e
theorem bk_fill {place : Nat → Option (Nat × Nat)} : ∀ {ps : List (Nat × GV)} {cells cs : List GV}, gfill place cells ps = some cs → Bks S cells → (∀ p ∈ ps, Bk S p.2) → Bks S cs
  | [], cells, cs, e, hc, _ => by cases e; exact hc
  | (i, v) :: ps, cells, cs, e, hc, hp => by
    unfold gfill at e
    split at e
    · cases e
    · split at e
      · exact bk_fill e (hc.splice (hp (i, v) (by simp)).cells) fun p h => hp p (by simp [h])
      · cases e
theorem bk_parts {parts : Array (Nat × Operand)} {ps : List (Nat × GV)} (e : gparts ev parts = some ps) (hev : ∀ x g, ev x = some g → Bk S g) : ∀ p ∈ ps, Bk S p.2 := by
  unfold gparts at e
  refine mapM_all e fun a _ b hb => ?_
  obtain ⟨g, h1, rfl⟩ := Option.map_eq_some_iff.1 hb
  exact hev _ _ h1

theorem bor_ls (hc : HC S h) : ∀ (d : Nat) (g g' : GV) (r : List Nat), bor d h g = some (g', r) → Bk S g → LS S h.length r
  | 0, g, g', r, e, _ => by cases e
  | d + 1, g, g', r, e, hg => by
    have many : ∀ {l : List GV} {xs : List (GV × List Nat)}, l.mapM (bor d h) = some xs → Bks S l → LS S h.length (xs.map (·.2)).flatten := fun {l xs} hx hl i hi => by
      obtain ⟨r', h1, h2⟩ := List.mem_flatten.1 hi
      obtain ⟨x, h3, rfl⟩ := List.mem_map.1 h1
      exact mapM_all (Q := fun x => LS S h.length x.2) hx (fun a ha b hb => bor_ls hc d a b.1 b.2 hb (hl.mem ha)) x h3 i h2
    unfold bor at e
    split at e
    · simp only [Option.bind_eq_bind, obsi] at e
      obtain ⟨cs, h1, xs, h2, e⟩ := e
      obtain ⟨h3, h4⟩ := hc.at hg h1
      split at e
      · split at e
        · cases e; exact .one hg h4
        · cases e; exact .cons ⟨hg, h4⟩ (many h2 h3.drop.take)
      · cases e
    · simp only [Option.bind_eq_bind, obsi, Option.some.injEq, Prod.mk.injEq] at e
      obtain ⟨cs, h1, xs, h2, rfl, rfl⟩ := e
      obtain ⟨h3, h4⟩ := hc.at hg h1
      exact .cons ⟨hg, h4⟩ (many h2 h3.drop)
    · simp only [Option.bind_eq_bind, obsi, Option.some.injEq, Prod.mk.injEq] at e
      obtain ⟨xs, h2, rfl, rfl⟩ := e
      exact many h2 hg
    · simp only [Option.bind_eq_bind, obsi, Option.some.injEq, Prod.mk.injEq] at e
      obtain ⟨xs, h2, rfl, rfl⟩ := e
      exact many h2 hg
    · cases e
    · cases e; exact .nil
    · cases e; exact .nil
    · cases e; exact .nil
    · cases e; exact .nil
    · cases e; exact .nil
theorem bors_ls (hc : HC S h) {l : List GV} {xs : List (GV × List Nat)} (hx : l.mapM (bor 9 h) = some xs) (hl : Bks S l) : LS S h.length (xs.map (·.2)).flatten := fun i hi => by
  obtain ⟨r', h1, h2⟩ := List.mem_flatten.1 hi
  obtain ⟨x, h3, rfl⟩ := List.mem_map.1 h1
  exact mapM_all (Q := fun x => LS S h.length x.2) hx (fun a ha b hb => bor_ls hc 9 a b.1 b.2 hb (hl.mem ha)) x h3 i h2
theorem bk_lend : ∀ (d : Nat) (g : GV), Bk NB g → Bk NB (lend d g)
  | 0, g, h => h
  | d + 1, g, h => by
    have many : ∀ {l : List GV}, Bks NB l → Bks NB (l.map (lend d)) := fun {l} hl => Bks_iff.2 fun g hg => by
      obtain ⟨x, h3, rfl⟩ := List.mem_map.1 hg
      exact bk_lend d x (hl.mem h3)
    unfold lend
    split
    · trivial
    · exact many h
    · exact many h
    · trivial
    · trivial
    · exact many h
    · exact h
theorem bk_bor (hc : HC S h) : ∀ (d : Nat) (g g' : GV) (r : List Nat), bor d h g = some (g', r) → Bk S g → Bk NB g'
  | 0, g, g', r, e, _ => by cases e
  | d + 1, g, g', r, e, hg => by
    have many : ∀ {l : List GV} {xs : List (GV × List Nat)}, l.mapM (bor d h) = some xs → Bks S l → Bks NB (xs.map (·.1)) := fun {l xs} hx hl => Bks_iff.2 fun g hg => by
      obtain ⟨x, h3, rfl⟩ := List.mem_map.1 hg
      exact mapM_all (Q := fun x => Bk NB x.1) hx (fun a ha b hb => bk_bor hc d a b.1 b.2 hb (hl.mem ha)) x h3
    unfold bor at e
    split at e
    · simp only [Option.bind_eq_bind, obsi] at e
      obtain ⟨cs, h1, xs, h2, e⟩ := e
      obtain ⟨h3, h4⟩ := hc.at hg h1
      split at e
      · split at e
        · cases e; trivial
        · cases e; exact many h2 h3.drop.take
      · cases e
    · simp only [Option.bind_eq_bind, obsi, Option.some.injEq, Prod.mk.injEq] at e
      obtain ⟨cs, h1, xs, h2, rfl, rfl⟩ := e
      obtain ⟨h3, h4⟩ := hc.at hg h1
      exact many h2 h3.drop
    · simp only [Option.bind_eq_bind, obsi, Option.some.injEq, Prod.mk.injEq] at e
      obtain ⟨xs, h2, rfl, rfl⟩ := e
      exact many h2 hg
    · simp only [Option.bind_eq_bind, obsi, Option.some.injEq, Prod.mk.injEq] at e
      obtain ⟨xs, h2, rfl, rfl⟩ := e
      exact many h2 hg
    · cases e
    · cases e; trivial
    · cases e; trivial
    · cases e; exact bk_lend (d + 1) _ hg
    · cases e; exact bk_lend (d + 1) _ hg
    · rename_i x1 x2 x3 x4 x5 x6 x7 x8 x9
      cases e
      cases g <;> first | trivial | (exfalso; exact x1 _ _ _ _ _ rfl) | (exfalso; simp_all; done)
theorem bk_bors (hc : HC S h) {l : List GV} {xs : List (GV × List Nat)} (hx : l.mapM (bor 9 h) = some xs) (hl : Bks S l) : Bks NB (xs.map (·.1)) := Bks_iff.2 fun g hg => by
  obtain ⟨x, h3, rfl⟩ := List.mem_map.1 hg
  exact mapM_all (Q := fun x => Bk NB x.1) hx (fun a ha b hb => bk_bor hc 9 a b.1 b.2 hb (hl.mem ha)) x h3
theorem bk_frz (hc : HC S h) : ∀ (d : Nat) (g g' : GV) (r : List Nat), frz d h g = some (g', r) → Bk S g → Bk NB g'
  | 0, g, g', r, e, _ => by cases e
  | d + 1, g, g', r, e, hg => by
    have many : ∀ {l : List GV} {xs : List (GV × List Nat)}, l.mapM (frz d h) = some xs → Bks S l → Bks NB (xs.map (·.1)) := fun {l xs} hx hl => Bks_iff.2 fun g hg => by
      obtain ⟨x, h3, rfl⟩ := List.mem_map.1 hg
      exact mapM_all (Q := fun x => Bk NB x.1) hx (fun a ha b hb => bk_frz hc d a b.1 b.2 hb (hl.mem ha)) x h3
    unfold frz at e
    split at e
    · simp only [Option.bind_eq_bind, obsi] at e
      obtain ⟨cs, h1, xs, h2, e⟩ := e
      obtain ⟨h3, h4⟩ := hc.at hg h1
      split at e
      · split at e
        · cases e; trivial
        · cases e; exact many h2 h3.drop.take
      · cases e
    · cases e
    · cases e
    · cases e
    · cases e; trivial
    · cases e
    · cases e; trivial
    · cases e; trivial
    · simp only [Option.bind_eq_bind, obsi, Option.some.injEq, Prod.mk.injEq] at e
      obtain ⟨xs, h2, rfl, rfl⟩ := e
      exact many h2 hg
    · simp only [Option.bind_eq_bind, obsi, Option.some.injEq, Prod.mk.injEq] at e
      obtain ⟨xs, h2, rfl, rfl⟩ := e
      exact many h2 hg
    · rename_i x1 x2 x3 x4 x5 x6 x7 x8 x9 x10
      cases e
      cases g <;> first | trivial | exact hg | (exfalso; exact x1 _ _ _ _ _ rfl) | (exfalso; simp_all; done)
theorem bk_ownL {T : Nat → Prop} {b : Nat} {f : Nat → GV → Option (GV × Vis × List (List GV))} (hf : ∀ b' g r, b ≤ b' → Bk S g → f b' g = some r → Bk T r.1 ∧ ∀ cs ∈ r.2.2, Bks T cs) : ∀ (l : List GV) (b' : Nat) (q : List GV × Vis × List (List GV)), b ≤ b' → Bks S l → ownL f b' l = some q → Bks T q.1 ∧ ∀ cs ∈ q.2.2, Bks T cs
  | [], b', q, hb, _, e => by cases e; exact ⟨trivial, fun cs h => by cases h⟩
  | g :: l, b', q, hb, hl, e => by
    unfold ownL at e
    simp only [obsi, Option.some.injEq] at e
    obtain ⟨r, h1, q', h2, rfl⟩ := e
    obtain ⟨a1, a2⟩ := hf _ _ _ hb hl.1 h1
    obtain ⟨a3, a4⟩ := bk_ownL hf l _ _ (Nat.le_trans hb (Nat.le_add_right _ _)) hl.2 h2
    exact ⟨⟨a1, a3⟩, fun cs h => by rcases List.mem_append.1 h with h | h; exact a2 cs h; exact a4 cs h⟩
theorem bk_own {T : Nat → Prop} {b : Nat} (hc : HC S h) (hb : ∀ i, b ≤ i → T i) : ∀ (d : Nat) (b' : Nat) (g : GV) (r : GV × Vis × List (List GV)), b ≤ b' → Bk S g → own d h b' g = some r → Bk T r.1 ∧ ∀ cs ∈ r.2.2, Bks T cs
  | 0, b', g, r, _, _, e => by cases e
  | d + 1, b', g, r, hb', hg, e => by
    have many := bk_ownL (S := S) (T := T) (b := b) (f := own d h) (fun b' g r h1 h0 h2 => bk_own hc hb d b' g r h1 h0 h2)
    unfold own at e
    split at e
    · simp only [obsi] at e
      obtain ⟨cs, h1, e⟩ := e
      obtain ⟨h3, h4⟩ := hc.at hg h1
      split at e
      · simp only [obsi, Option.some.injEq] at e
        obtain ⟨q, h2, rfl⟩ := e
        obtain ⟨a1, a2⟩ := many _ _ _ (Nat.le_succ_of_le hb') h3.drop.take h2
        exact ⟨hb _ hb', fun cs h => by rcases List.mem_cons.1 h with rfl | h; exact a1; exact a2 cs h⟩
      · cases e
    · simp only [obsi, Option.some.injEq] at e
      obtain ⟨q, h2, rfl⟩ := e
      obtain ⟨a1, a2⟩ := many _ _ _ hb' hg h2
      exact ⟨a1, a2⟩
    · simp only [obsi, Option.some.injEq] at e
      obtain ⟨q, h2, rfl⟩ := e
      obtain ⟨a1, a2⟩ := many _ _ _ hb' hg h2
      exact ⟨a1, a2⟩
    · cases e
    · cases e
    · cases e
    · cases e; exact ⟨trivial, fun cs h => by cases h⟩
    · cases e
    · rename_i x1 x2 x3 x4 x5 x6 x7 x8
      cases e
      refine ⟨?_, fun cs h => by cases h⟩
      cases g <;> first | trivial | exact hg | (exfalso; exact x1 _ _ _ _ _ rfl) | (exfalso; simp_all; done)

def CReach (call : GCall) : Prop := ∀ (S : Nat → Prop) f args h v h' lg, (∀ i, h.length ≤ i → S i) → Bks S args → HC S h → call f args h = some (v, h', lg) → Rch S h v h' lg
def XReach (C : Cfg) : Prop := ∀ f e xs v, C.ext f = some e → e xs = some v → Bk NB v
class XR (C : Cfg) : Prop where
  x : XReach C

theorem HC.nil : HC S [] := fun i cs _ e => by simp at e
theorem bk_callee (hX : XReach C) (hC : CReach call) {g : FuncId} {args : List GV} (hn : ∀ i, h.length ≤ i → S i) (ha : Bks S args) (hc : HC S h) (e : gcallee P C call g args h = some (v, h', lg)) : Rch S h v h' lg := by
  unfold gcallee at e
  split at e
  · cases e
  · split at e
    · split at e
      · rename_i e' he'
        simp only [Option.bind_eq_bind, obsi, Option.some.injEq, Prod.mk.injEq] at e
        obtain ⟨xs, h1, v', h2, rfl, rfl, rfl⟩ := e
        exact .same hc (hX _ _ _ _ he' h2).to (bors_ls hc h1 ha)
      · split at e
        · split at e
          · split at e
            · simp only [Option.some.injEq, Prod.mk.injEq] at e
              obtain ⟨rfl, rfl, rfl⟩ := e
              exact .nil hc trivial
            · cases e
          · exact hC _ _ _ _ _ _ _ hn ha hc e
        · split at e
          · simp only [Option.bind_eq_bind, obsi] at e
            obtain ⟨xs, h1, e⟩ := e
            have hr := bors_ls hc h1 ha
            have hb := bk_bors hc h1 ha
            split at e
            · split at e
              · simp only [Option.some.injEq, Prod.mk.injEq] at e
                obtain ⟨rfl, rfl, rfl⟩ := e
                exact .same hc (by trivial) hr
              · cases e
            simp only [obsi] at e
            obtain ⟨⟨v1, h1', _⟩, h2, ⟨v2, vis, bl⟩, h3, e⟩ := e
            have r1 := hC (fun _ => True) _ _ _ _ _ _ (fun _ _ => trivial) hb.tos .nil h2
            obtain ⟨a1, a2⟩ := bk_own (T := S) (b := h.length) r1.hc hn 9 _ _ _ (Nat.le_refl _) r1.v h3
            split at e
            · simp only [Option.some.injEq, Prod.mk.injEq] at e
              obtain ⟨rfl, rfl, rfl⟩ := e
              exact ⟨a1, hc.app a2, by simp, hr.mono (by simp), .nil⟩
            · cases e
          simp only [Option.bind_eq_bind, obsi, Option.some.injEq, Prod.mk.injEq] at e
          obtain ⟨xs, h1, ⟨v1, h1', _⟩, h2, ⟨v2, r2⟩, h3, rfl, rfl, rfl⟩ := e
          have r1 := hC (fun _ => True) _ _ _ _ _ _ (fun _ _ => trivial) (bk_bors hc h1 ha).tos .nil h2
          exact .same hc (bk_frz r1.hc 9 _ _ _ h3 r1.v).to (bors_ls hc h1 ha)
    · cases e

theorem bk_appz {t : TypeId} {s x : GV} (hn : ∀ i, h.length ≤ i → S i) (hc : HC S h) (e : gappz P h t s x = some (v, h', lg)) : Rch S h v h' lg := by
  unfold gappz at e
  simp only [Option.bind_eq_bind, obsi] at e
  obtain ⟨dd, hu, e⟩ := e
  split at e
  · simp only [obsi] at e
    obtain ⟨info, hi, z, hz, e⟩ := e
    split at e
    · split at e
      · split at e
        · simp only [Option.some.injEq, Prod.mk.injEq] at e; obtain ⟨rfl, rfl, rfl⟩ := e; exact .nil hc trivial
        · simp only [Option.some.injEq, Prod.mk.injEq] at e; obtain ⟨rfl, rfl, rfl⟩ := e; exact ⟨hn _ (Nat.le_refl _), hc.app1 (bk_zeros (bk_zero hz) _), by simp, .nil, .nil⟩
      · cases e
    · cases e
  · cases e

theorem bk_append {t : TypeId} {s x : GV} (hn : ∀ i, h.length ≤ i → S i) (hs : Bk S s) (hx : Bk S x) (hc : HC S h) (e : gappend P h t s x = some (v, h', lg)) : Rch S h v h' lg := by
  unfold gappend at e
  simp only [Option.bind_eq_bind, obsi] at e
  obtain ⟨dd, hu, e⟩ := e
  split at e
  · simp only [obsi] at e
    obtain ⟨info, hi, ⟨n, new, r⟩, hc', z, hz, e⟩ := e
    obtain ⟨b1, b2⟩ := bk_cells hc' hx hc
    split at e
    · split at e
      · split at e
        · simp only [Option.some.injEq, Prod.mk.injEq] at e; obtain ⟨rfl, rfl, rfl⟩ := e; exact .same hc (by trivial) b2
        · simp only [Option.some.injEq, Prod.mk.injEq] at e; obtain ⟨rfl, rfl, rfl⟩ := e; exact ⟨hn _ (Nat.le_refl _), hc.app1 b1, by simp, b2.mono (by simp), .nil⟩
      · split at e
        · simp only [Option.some.injEq, Prod.mk.injEq] at e; obtain ⟨rfl, rfl, rfl⟩ := e; exact .same hc (by trivial) b2
        · simp only [Option.some.injEq, Prod.mk.injEq] at e; obtain ⟨rfl, rfl, rfl⟩ := e; exact ⟨hn _ (Nat.le_refl _), hc.app1 b1, by simp, b2.mono (by simp), .nil⟩
      · simp only [obsi] at e
        obtain ⟨cs, hcs, e⟩ := e
        obtain ⟨c1, c2⟩ := hc.at hs hcs
        split at e
        · split at e
          · simp only [Option.some.injEq, Prod.mk.injEq] at e
            obtain ⟨rfl, rfl, rfl⟩ := e
            exact ⟨hs, hc.set (c1.splice b1), by simp, .cons ⟨hs, by simpa using c2⟩ (b2.mono (by simp)), .one hs (by simpa using c2)⟩
          · split at e
            · simp only [Option.some.injEq, Prod.mk.injEq] at e
              obtain ⟨rfl, rfl, rfl⟩ := e
              exact ⟨hs, hc.set (c1.take.app b1), by simp, .cons ⟨hs, by simpa using c2⟩ (b2.mono (by simp)), .one hs (by simpa using c2)⟩
            · cases e
        · cases e
      · cases e
    · cases e
  · cases e

theorem bk_copy {t : TypeId} {s x : GV} (hs : Bk S s) (hx : Bk S x) (hc : HC S h) (e : gcopy P h t s x = some (v, h', lg)) : Rch S h v h' lg := by
  unfold gcopy at e
  simp only [Option.bind_eq_bind, obsi] at e
  obtain ⟨dd, hu, e⟩ := e
  split at e
  · simp only [obsi] at e
    obtain ⟨es, hi, ⟨n, new, r⟩, hc', e⟩ := e
    obtain ⟨b1, b2⟩ := bk_cells hc' hx hc
    split at e
    · split at e
      · simp only [Option.some.injEq, Prod.mk.injEq] at e; obtain ⟨rfl, rfl, rfl⟩ := e; exact .same hc (by trivial) b2
      · simp only [Option.some.injEq, Prod.mk.injEq] at e; obtain ⟨rfl, rfl, rfl⟩ := e; exact .same hc (by trivial) b2
      · simp only [obsi] at e
        obtain ⟨cs, hcs, e⟩ := e
        obtain ⟨c1, c2⟩ := hc.at hs hcs
        split at e
        · simp only [Option.some.injEq, Prod.mk.injEq] at e
          obtain ⟨rfl, rfl, rfl⟩ := e
          exact ⟨trivial, hc.set (c1.splice b1.take), by simp, b2.mono (by simp), .one hs (by simpa using c2)⟩
        · cases e
      · cases e
    · cases e
  · cases e

theorem bk_clear {t : TypeId} {s : GV} (hs : Bk S s) (hc : HC S h) (e : gclear P h t s = some (v, h', lg)) : Rch S h v h' lg := by
  unfold gclear at e
  simp only [Option.bind_eq_bind, obsi] at e
  obtain ⟨dd, hu, e⟩ := e
  split at e
  · simp only [obsi] at e
    obtain ⟨z, hz, e⟩ := e
    split at e
    · simp only [Option.some.injEq, Prod.mk.injEq] at e; obtain ⟨rfl, rfl, rfl⟩ := e; exact .nil hc trivial
    · simp only [Option.some.injEq, Prod.mk.injEq] at e; obtain ⟨rfl, rfl, rfl⟩ := e; exact .nil hc trivial
    · simp only [obsi] at e
      obtain ⟨cs, hcs, e⟩ := e
      obtain ⟨c1, c2⟩ := hc.at hs hcs
      split at e
      · simp only [Option.some.injEq, Prod.mk.injEq] at e
        obtain ⟨rfl, rfl, rfl⟩ := e
        exact ⟨trivial, hc.set (c1.splice (bk_zeros (bk_zero hz) _)), by simp, .nil, .one hs (by simpa using c2)⟩
      · cases e
    · cases e
  · cases e
theorem bk_min {x y v : GV} (e : gmin x y = some v) : Bk S v := by
  unfold gmin at e
  split at e
  · cases e; trivial
  · cases e
theorem bk_max {x y v : GV} (e : gmax x y = some v) : Bk S v := by
  unfold gmax at e
  split at e
  · cases e; trivial
  · cases e
theorem bk_fold {f : GV → GV → Option GV} (hf : ∀ x y v, f x y = some v → Bk S v) : ∀ (l : List GV) (x v : GV), Bk S x → l.foldlM f x = some v → Bk S v
  | [], x, v, hx, e => by cases e; exact hx
  | y :: l, x, v, hx, e => by
    simp only [List.foldlM_cons, Option.bind_eq_bind, obsi] at e
    obtain ⟨z, h1, h2⟩ := e
    exact bk_fold hf l z v (hf _ _ _ h1) h2
theorem bk_builtin {b : Builtin} {ts : Array TypeId} {args : List GV} (hn : ∀ i, h.length ≤ i → S i) (ha : Bks S args) (hc : HC S h) (e : gbuiltin P b ts args h = some (v, h', lg)) : Rch S h v h' lg := by
  unfold gbuiltin at e
  split at e
  · simp only [Option.bind_eq_bind, obsi] at e
    obtain ⟨t, ht, e⟩ := e
    split at e
    · simp only [Option.some.injEq, Prod.mk.injEq] at e; obtain ⟨rfl, rfl, rfl⟩ := e; exact .nil hc trivial
    · split at e
      · cases e
      · simp only [obsi, Option.some.injEq, Prod.mk.injEq] at e
        obtain ⟨_, _, rfl, rfl, rfl⟩ := e
        exact .nil hc trivial
    · simp only [Option.some.injEq, Prod.mk.injEq] at e; obtain ⟨rfl, rfl, rfl⟩ := e; exact .nil hc trivial
    · cases e
  · simp only [Option.bind_eq_bind, obsi] at e
    obtain ⟨t, ht, e⟩ := e
    split at e
    · simp only [Option.some.injEq, Prod.mk.injEq] at e; obtain ⟨rfl, rfl, rfl⟩ := e; exact .nil hc trivial
    · simp only [Option.some.injEq, Prod.mk.injEq] at e; obtain ⟨rfl, rfl, rfl⟩ := e; exact .nil hc trivial
    · cases e
  · simp only [Option.bind_eq_bind, obsi, Option.some.injEq, Prod.mk.injEq] at e
    obtain ⟨_, h1, rfl, rfl, rfl⟩ := e
    exact .nil hc (bk_fold (fun _ _ _ e => bk_min e) _ _ _ ha.1 h1)
  · simp only [Option.bind_eq_bind, obsi, Option.some.injEq, Prod.mk.injEq] at e
    obtain ⟨_, h1, rfl, rfl, rfl⟩ := e
    exact .nil hc (bk_fold (fun _ _ _ e => bk_max e) _ _ _ ha.1 h1)
  · simp only [Option.bind_eq_bind, obsi] at e
    obtain ⟨t, ht, t', ht', e⟩ := e
    split at e
    · exact bk_appz hn hc e
    · exact bk_append hn ha.1 ha.2.1 hc e
    · cases e
  · simp only [Option.bind_eq_bind, obsi] at e
    obtain ⟨t, ht, e⟩ := e
    exact bk_copy ha.1 ha.2.1 hc e
  · simp only [Option.bind_eq_bind, obsi] at e
    obtain ⟨t, ht, e⟩ := e
    exact bk_clear ha.1 hc e
  · cases e
theorem bk_convert {s d : TypeId} {x : GV} (hn : ∀ i, h.length ≤ i → S i) (hx : Bk S x) (hc : HC S h) (e : gconvert P s d x h = some (v, h', lg)) : Rch S h v h' lg := by
  unfold gconvert at e
  split at e
  · simp only [Option.some.injEq, Prod.mk.injEq] at e; obtain ⟨rfl, rfl, rfl⟩ := e; exact .nil hc trivial
  · simp only [Option.some.injEq, Prod.mk.injEq] at e; obtain ⟨rfl, rfl, rfl⟩ := e; exact .nil hc trivial
  · split at e
    · simp only [Option.some.injEq, Prod.mk.injEq] at e; obtain ⟨rfl, rfl, rfl⟩ := e
      exact ⟨hn _ (Nat.le_refl _), hc.app1 (Bks_iff.2 fun g hg => by obtain ⟨b, _, rfl⟩ := List.mem_map.1 hg; trivial), by simp, .nil, .nil⟩
    · cases e
  · split at e
    · split at e
      · cases e
      · cases e
      · simp only [Option.bind_eq_bind, obsi] at e
        obtain ⟨⟨n, cs, r⟩, hc', ns, hns, e⟩ := e
        split at e
        · simp only [Option.some.injEq, Prod.mk.injEq] at e; obtain ⟨rfl, rfl, rfl⟩ := e; exact .same hc (by trivial) (bk_cells hc' hx hc).2
        · cases e
    · cases e
  · cases e
theorem bk_store {t : TypeId} {a x : GV} {i : Nat} (ha : Bk S a) (hx : Bk S x) (hc : HC S h) (e : gstore P h t a x = some (h', i)) : Rch S h .un h' ⟨[], [i]⟩ := by
  unfold gstore at e
  simp only [Option.bind_eq_bind, obsi] at e
  obtain ⟨n, hn, e⟩ := e
  split at e
  · split at e
    · simp only [obsi] at e
      obtain ⟨cs, hcs, e⟩ := e
      obtain ⟨c1, c2⟩ := hc.at ha hcs
      split at e
      · simp only [Option.some.injEq, Prod.mk.injEq] at e
        obtain ⟨rfl, rfl⟩ := e
        exact ⟨trivial, hc.set (c1.splice hx.cells), by simp, .nil, .one ha (by simpa using c2)⟩
      · cases e
    · cases e
  · cases e

theorem bk_globs {g : Nat} {cs : List GV} (e : globs g = some cs) : Bks NB cs := by
  unfold globs at e
  cases e
theorem bk_eval {σ : GS} (hσ : ∀ t, Bk S (σ t)) {x : Operand} {g : GV} (e : eval σ x = some g) : Bk S g := by
  unfold eval at e
  split at e
  · cases e; exact hσ _
  · exact bk_ofV e
  · cases e; trivial
  · obtain ⟨cs, h1, rfl⟩ := Option.map_eq_some_iff.1 e; exact bk_globs h1
theorem bk_op (hX : XReach C) (hC : CReach call) (hev : ∀ x g, ev x = some g → Bk S g) (hn : ∀ i, h.length ≤ i → S i) (hc : HC S h) (e : gop P C call ev o h = some (v, h', lg)) : Rch S h v h' lg := by
  have hevs : ∀ {l : List Operand} {gs : List GV}, l.mapM ev = some gs → Bks S gs := fun {l gs} e => mapM_bks e fun a _ b hb => hev _ _ hb
  unfold gop at e
  split at e
  · simp only [Option.bind_eq_bind, obsi, Option.some.injEq, Prod.mk.injEq] at e
    obtain ⟨_, h1, rfl, rfl, rfl⟩ := e; exact .nil hc (hev _ _ h1)
  · simp only [Option.bind_eq_bind, obsi, Option.some.injEq, Prod.mk.injEq] at e
    obtain ⟨_, h1, rfl, rfl, rfl⟩ := e; exact .nil hc (hev _ _ h1)
  · simp only [Option.bind_eq_bind, obsi] at e
    obtain ⟨_, _, e⟩ := e
    split at e
    · simp only [obsi, Option.some.injEq, Prod.mk.injEq] at e
      obtain ⟨x, h1, y, h2, rfl, rfl, rfl⟩ := e
      refine .nil hc ?_
      rename_i t _
      cases t
      · exact hev _ _ h2
      · exact hev _ _ h1
    · cases e
  · simp only [Option.bind_eq_bind, obsi, Option.some.injEq, Prod.mk.injEq] at e
    obtain ⟨z, hz, rfl, rfl, rfl⟩ := e; exact ⟨hn _ (Nat.le_refl _), hc.app1 (bk_zero hz), by simp, .nil, .nil⟩
  · simp only [Option.bind_eq_bind, obsi, Option.some.injEq, Prod.mk.injEq] at e
    obtain ⟨x, h1, rfl, rfl, rfl⟩ := e; exact ⟨hn _ (Nat.le_refl _), hc.app1 (hev _ _ h1).cells, by simp, .nil, .nil⟩
  · simp only [Option.bind_eq_bind, obsi] at e
    obtain ⟨z, hz, ps, hp, e⟩ := e
    split at e
    · simp only [obsi, Option.some.injEq, Prod.mk.injEq] at e
      obtain ⟨_, _, cs, h1, rfl, rfl, rfl⟩ := e; exact .nil hc (bk_fill h1 (bk_zero hz) (bk_parts hp hev))
    · simp only [obsi, Option.some.injEq, Prod.mk.injEq] at e
      obtain ⟨_, _, cs, h1, rfl, rfl, rfl⟩ := e; exact .nil hc (bk_fill h1 (bk_zero hz) (bk_parts hp hev))
    · cases e
  · simp only [Option.bind_eq_bind, obsi] at e
    obtain ⟨_, _, e⟩ := e
    split at e
    · simp only [obsi] at e
      obtain ⟨n, _, z, hz, ps, hp, e⟩ := e
      split at e
      · simp only [obsi] at e
        obtain ⟨cs, h1, e⟩ := e
        split at e
        · simp only [Option.some.injEq, Prod.mk.injEq] at e
          obtain ⟨rfl, rfl, rfl⟩ := e; exact .nil hc trivial
        · simp only [Option.some.injEq, Prod.mk.injEq] at e
          obtain ⟨rfl, rfl, rfl⟩ := e; exact ⟨hn _ (Nat.le_refl _), hc.app1 (bk_fill h1 (bk_zeros (bk_zero hz) _) (bk_parts hp hev)), by simp, .nil, .nil⟩
      · cases e
    · cases e
  · simp only [Option.bind_eq_bind, obsi, Option.some.injEq, Prod.mk.injEq] at e
    obtain ⟨a, h1, ⟨v1, r1⟩, h2, rfl, rfl, rfl⟩ := e
    obtain ⟨a1, a2⟩ := bk_load h2 (hev _ _ h1) hc
    exact .same hc a1 a2
  · simp only [Option.bind_eq_bind, obsi, Option.some.injEq, Prod.mk.injEq] at e
    obtain ⟨a, h1, x, h2, ⟨_, _⟩, hs, rfl, rfl, rfl⟩ := e
    exact bk_store (hev _ _ h1) (hev _ _ h2) hc hs
  · simp only [Option.bind_eq_bind, obsi] at e
    obtain ⟨a, h1, e⟩ := e
    have ha := hev _ _ h1
    split at e <;> first
      | (simp only [Option.some.injEq, Prod.mk.injEq] at e; obtain ⟨rfl, rfl, rfl⟩ := e; exact .nil hc ha)
      | cases e
  · simp only [Option.bind_eq_bind, obsi, Option.some.injEq, Prod.mk.injEq] at e
    obtain ⟨_, _, _, _, _, h1, rfl, rfl, rfl⟩ := e; exact .nil hc (bk_binop h1)
  · simp only [Option.bind_eq_bind, obsi] at e
    obtain ⟨_, _, e⟩ := e
    split at e <;> first
      | (simp only [Option.some.injEq, Prod.mk.injEq] at e; obtain ⟨rfl, rfl, rfl⟩ := e; exact .nil hc (by trivial))
      | cases e
  · simp only [Option.bind_eq_bind, obsi] at e
    obtain ⟨a, h1, e⟩ := e
    exact bk_convert hn (hev _ _ h1) hc e
  · simp only [Option.bind_eq_bind, obsi] at e
    obtain ⟨_, _, e⟩ := e
    split at e <;> first
      | (simp only [Option.some.injEq, Prod.mk.injEq] at e; obtain ⟨rfl, rfl, rfl⟩ := e; exact .nil hc (by trivial))
      | cases e
  · simp only [Option.bind_eq_bind, obsi] at e
    obtain ⟨cs, h1, e⟩ := e
    split at e
    · simp only [Option.some.injEq, Prod.mk.injEq] at e; obtain ⟨rfl, rfl, rfl⟩ := e; exact .nil hc (hevs h1)
    · cases e
  · simp only [Option.bind_eq_bind, obsi] at e
    obtain ⟨_, _, e⟩ := e
    split at e
    · simp only [obsi] at e
      obtain ⟨_, _, z, hz, _, _, e⟩ := e
      split at e
      · simp only [obsi] at e
        obtain ⟨_, _, e⟩ := e
        split at e
        · split at e
          · simp only [Option.some.injEq, Prod.mk.injEq] at e; obtain ⟨rfl, rfl, rfl⟩ := e; exact ⟨hn _ (Nat.le_refl _), hc.app1 (bk_zeros (bk_zero hz) _), by simp, .nil, .nil⟩
          · cases e
        · cases e
      · cases e
    · cases e
  · simp only [Option.bind_eq_bind, obsi] at e
    obtain ⟨a, h0, _, _, _, _, _, _, e⟩ := e
    have ha := hev _ _ h0
    split at e
    · simp only [obsi, Option.some.injEq, Prod.mk.injEq] at e
      obtain ⟨_, h1, rfl, rfl, rfl⟩ := e; exact .nil hc (bk_slice h1 ha)
    · split at e
      · simp only [obsi, Option.some.injEq, Prod.mk.injEq] at e
        obtain ⟨_, h1, rfl, rfl, rfl⟩ := e; exact .nil hc (bk_slice h1 ha)
      · cases e
    · split at e
      · simp only [obsi, Option.some.injEq, Prod.mk.injEq] at e
        obtain ⟨_, h1, rfl, rfl, rfl⟩ := e; exact .nil hc (bk_slice h1 ha)
      · cases e
    · simp only [obsi, Option.some.injEq, Prod.mk.injEq] at e
      obtain ⟨_, _, _, h1, rfl, rfl, rfl⟩ := e; exact .nil hc (bk_slice h1 ha)
    · simp only [obsi, Option.some.injEq, Prod.mk.injEq] at e
      obtain ⟨_, _, _, h1, rfl, rfl, rfl⟩ := e; exact .nil hc (bk_slice h1 ha)
    · cases e
  · simp only [Option.bind_eq_bind, obsi] at e
    obtain ⟨_, _, e⟩ := e
    split at e
    · simp only [obsi] at e
      obtain ⟨_, _, _, _, e⟩ := e
      split at e
      · cases e
      · simp only [obsi] at e
        obtain ⟨a, h1, e⟩ := e
        have ha := hev _ _ h1
        split at e
        · simp only [Option.some.injEq, Prod.mk.injEq] at e; obtain ⟨rfl, rfl, rfl⟩ := e; exact .nil hc ha
        · simp only [Option.some.injEq, Prod.mk.injEq] at e; obtain ⟨rfl, rfl, rfl⟩ := e
          have ha' : Bks NB _ := ha
          exact .nil hc ha'.drop
        · cases e
    · cases e
  · simp only [Option.bind_eq_bind, obsi] at e
    obtain ⟨_, _, e⟩ := e
    split at e
    · simp only [obsi] at e
      obtain ⟨_, _, a, h1, e⟩ := e
      have ha := hev _ _ h1
      split at e
      · simp only [obsi, Option.some.injEq, Prod.mk.injEq] at e
        obtain ⟨_, h1, rfl, rfl, rfl⟩ := e; exact .nil hc (bk_part h1 ha)
      · cases e
    · cases e
  · simp only [Option.bind_eq_bind, obsi] at e
    obtain ⟨a, h1, _, _, e⟩ := e
    have ha := hev _ _ h1
    split at e
    · split at e
      · split at e
        · simp only [Option.some.injEq, Prod.mk.injEq] at e; obtain ⟨rfl, rfl, rfl⟩ := e; exact .nil hc ha
        · cases e
      · split at e
        · simp only [Option.some.injEq, Prod.mk.injEq] at e; obtain ⟨rfl, rfl, rfl⟩ := e
          have ha' : Bks NB _ := ha
          exact .nil hc ha'.drop
        · cases e
      · obtain ⟨_, _, e⟩ := obsi.1 e
        split at e
        · simp only [Option.some.injEq, Prod.mk.injEq] at e; obtain ⟨rfl, rfl, rfl⟩ := e
          have ha' : Bks NB _ := ha
          exact .nil hc ha'.drop
        · cases e
      · obtain ⟨_, _, e⟩ := obsi.1 e
        split at e
        · simp only [Option.some.injEq, Prod.mk.injEq] at e; obtain ⟨rfl, rfl, rfl⟩ := e; exact .nil hc ha
        · cases e
      · cases e
    · cases e
  · simp only [Option.bind_eq_bind, obsi] at e
    obtain ⟨a, h1, _, _, e⟩ := e
    have ha := hev _ _ h1
    split at e
    · split at e
      · split at e
        · split at e
          · simp only [Option.some.injEq, Prod.mk.injEq] at e; obtain ⟨rfl, rfl, rfl⟩ := e; exact .nil hc trivial
          · cases e
        · cases e
      · simp only [obsi] at e
        obtain ⟨_, _, e⟩ := e
        split at e
        · simp only [obsi, Option.some.injEq, Prod.mk.injEq] at e
          obtain ⟨_, h1, rfl, rfl, rfl⟩ := e; exact .nil hc (bk_part h1 ha)
        · cases e
      · cases e
    · cases e
  · simp only [Option.bind_eq_bind, obsi] at e
    obtain ⟨a, h1, e⟩ := e
    have ha := hev _ _ h1
    split at e
    · simp only [obsi, Option.some.injEq, Prod.mk.injEq] at e
      obtain ⟨_, h1, rfl, rfl, rfl⟩ := e
      have ha' : Bks S _ := ha
      exact .nil hc (ha'.get h1)
    · cases e
  · split at e
    · simp only [Option.bind_eq_bind, obsi] at e
      obtain ⟨_, h1, e⟩ := e
      exact bk_builtin hn (hevs h1) hc e
    · simp only [Option.bind_eq_bind, obsi] at e
      obtain ⟨fv, h0, e⟩ := e
      split at e
      · simp only [obsi] at e
        obtain ⟨_, h1, e⟩ := e
        exact bk_callee hX hC hn ((hevs h1).app (hev _ _ h0)) hc e
      · cases e
    · cases e
  · cases e

theorem Rch.step {h1 : Heap} {v1 : GV} {lg1 lg2 : Lg} (a : Rch S h v1 h1 lg1) (b : Rch S h1 v h' lg2) : Rch S h v h' (lg1.add lg2) :=
  ⟨b.v, b.hc, Nat.le_trans a.len b.len, (a.r.mono b.len).app b.r, (a.w.mono b.len).app b.w⟩
theorem bk_upd {σ : GS} (hσ : ∀ t, Bk S (σ t)) {d : Option Tmp} (hv : Bk S v) : ∀ t, Bk S (upd σ d v t) := fun t => by
  unfold upd
  split
  · cases hb : Nat.beq t _ with
    | true => simpa [hb] using hv
    | false => simpa [hb] using hσ t
  · exact hσ t
theorem bk_ops {nt : Nat} {ops : Array Oper} (hX : XReach C) (hC : CReach call) : ∀ (l : List Nat) (σ : GS) (h : Heap) (σ' : GS) (h' : Heap) (recs : List Rec), (∀ i, h.length ≤ i → S i) → HC S h → (∀ t, Bk S (σ t)) → gops P C call nt ops l σ h = some (σ', h', recs) → Rch S h .un h' (logOf recs) ∧ ∀ t, Bk S (σ' t)
  | [], σ, h, σ', h', recs, hn, hc, hσ, e => by
    simp only [gops, Option.some.injEq, Prod.mk.injEq] at e
    obtain ⟨rfl, rfl, rfl⟩ := e
    exact ⟨.nil hc trivial, hσ⟩
  | j :: rest, σ, h, σ', h', recs, hn, hc, hσ, e => by
    unfold gops at e
    cases hj : ops[j]? with
    | none => rw [hj] at e; cases e
    | some o =>
      rw [hj] at e
      simp only at e
      split at e
      · split at e
        · simp only [Option.bind_eq_bind, obsi, Option.some.injEq, Prod.mk.injEq] at e
          obtain ⟨⟨v, h1, lg⟩, he, ⟨σ2, h2, recs2⟩, hr, rfl, rfl, rfl⟩ := e
          have r1 := bk_op hX hC (fun x g e => bk_eval hσ e) hn hc he
          obtain ⟨r2, s2⟩ := bk_ops hX hC rest _ _ _ _ _ (fun i hi => hn i (Nat.le_trans r1.len hi)) r1.hc (bk_upd hσ r1.v) hr
          exact ⟨r1.step r2, s2⟩
        · simp only [Option.bind_eq_bind, obsi, Option.some.injEq, Prod.mk.injEq] at e
          obtain ⟨⟨σ2, h2, recs2⟩, hr, rfl, rfl, rfl⟩ := e
          obtain ⟨r2, s2⟩ := bk_ops hX hC rest _ _ _ _ _ hn hc (bk_upd (v := .un) hσ trivial) hr
          exact ⟨(Rch.nil (v := .un) hc trivial).step r2, s2⟩
      · cases e
theorem bk_region {nt : Nat} {ops : Array Oper} (hX : XReach C) (hC : CReach call) {draw : Bool} {σ σ' : GS} (hn : ∀ i, h.length ≤ i → S i) (hc : HC S h) (hσ : ∀ t, Bk S (σ t)) (e : gregion P C call nt ops draw σ h = some (σ', h', lg)) : Rch S h .un h' lg ∧ ∀ t, Bk S (σ' t) := by
  unfold gregion at e
  simp only [Option.bind_eq_bind, obsi] at e
  obtain ⟨⟨σ1, h1, l⟩, hr, e⟩ := e
  have := bk_ops hX hC _ _ _ _ _ _ hn hc hσ hr
  split at e
  · split at e
    · simp only [Option.some.injEq, Prod.mk.injEq] at e
      obtain ⟨rfl, rfl, rfl⟩ := e
      exact this
    · cases e
  · simp only [Option.some.injEq, Prod.mk.injEq] at e
    obtain ⟨rfl, rfl, rfl⟩ := e
    exact this
theorem bk_loop {body : GS → Heap → GR} (hb : ∀ σ h x σ' h' lg, (∀ i, h.length ≤ i → S i) → HC S h → (∀ t, Bk S (σ t)) → body σ h = some (x, σ', h', lg) → Rch S h .un h' lg ∧ ∀ t, Bk S (σ' t)) : ∀ (k : Nat) (σ : GS) (h : Heap) (x : GX) (σ' : GS) (h' : Heap) (lg : Lg),
    (∀ i, h.length ≤ i → S i) → HC S h → (∀ t, Bk S (σ t)) → gloop body k σ h = some (x, σ', h', lg) → Rch S h .un h' lg ∧ ∀ t, Bk S (σ' t)
  | 0, σ, h, x, σ', h', lg, _, _, _, e => by cases e
  | k + 1, σ, h, x, σ', h', lg, hn, hc, hσ, e => by
    unfold gloop at e
    split at e
    · rename_i σ1 h1 l1 h0
      obtain ⟨⟨x2, σ2, h2, l2⟩, hr, e⟩ := Option.map_eq_some_iff.1 e
      simp only [Prod.mk.injEq] at e
      obtain ⟨rfl, rfl, rfl, rfl⟩ := e
      obtain ⟨r1, s1⟩ := hb _ _ _ _ _ _ hn hc hσ h0
      obtain ⟨r2, s2⟩ := bk_loop hb k _ _ _ _ _ _ (fun i hi => hn i (Nat.le_trans r1.len hi)) r1.hc s1 hr
      exact ⟨r1.step r2, s2⟩
    · exact hb _ _ _ _ _ _ hn hc hσ e
theorem bk_code {nt k : Nat} (hX : XReach C) (hC : CReach call) : ∀ (c : Code) (σ : GS) (h : Heap) (x : GX) (σ' : GS) (h' : Heap) (lg : Lg), (∀ i, h.length ≤ i → S i) → HC S h → (∀ t, Bk S (σ t)) → gcode P C call k nt c σ h = some (x, σ', h', lg) → Rch S h .un h' lg ∧ ∀ t, Bk S (σ' t)
  | .skip, σ, h, x, σ', h', lg, hn, hc, hσ, e => by
    simp only [gcode, Option.some.injEq, Prod.mk.injEq] at e
    obtain ⟨rfl, rfl, rfl, rfl⟩ := e
    exact ⟨.nil hc trivial, hσ⟩
  | .region id ops draw, σ, h, x, σ', h', lg, hn, hc, hσ, e => by
    simp only [gcode] at e
    obtain ⟨⟨σ2, h2, l2⟩, hr, e⟩ := Option.map_eq_some_iff.1 e
    simp only [Prod.mk.injEq] at e
    obtain ⟨rfl, rfl, rfl, rfl⟩ := e
    exact bk_region hX hC hn hc hσ hr
  | .seq a b, σ, h, x, σ', h', lg, hn, hc, hσ, e => by
    simp only [gcode] at e
    split at e
    · rename_i σ1 h1 l1 h0
      obtain ⟨⟨x2, σ2, h2, l2⟩, hr, e⟩ := Option.map_eq_some_iff.1 e
      simp only [Prod.mk.injEq] at e
      obtain ⟨rfl, rfl, rfl, rfl⟩ := e
      obtain ⟨r1, s1⟩ := bk_code hX hC a _ _ _ _ _ _ hn hc hσ h0
      obtain ⟨r2, s2⟩ := bk_code hX hC b _ _ _ _ _ _ (fun i hi => hn i (Nat.le_trans r1.len hi)) r1.hc s1 hr
      exact ⟨r1.step r2, s2⟩
    · exact bk_code hX hC a _ _ _ _ _ _ hn hc hσ e
  | .cond c a b, σ, h, x, σ', h', lg, hn, hc, hσ, e => by
    simp only [gcode] at e
    split at e
    · rename_i t ht
      cases t with
      | true => exact bk_code hX hC a _ _ _ _ _ _ hn hc hσ e
      | false => exact bk_code hX hC b _ _ _ _ _ _ hn hc hσ e
    · cases e
  | .block id c, σ, h, x, σ', h', lg, hn, hc, hσ, e => by
    simp only [gcode] at e
    split at e
    · rename_i id' σ1 h1 l1 h0
      split at e
      · simp only [Option.some.injEq, Prod.mk.injEq] at e
        obtain ⟨rfl, rfl, rfl, rfl⟩ := e
        exact bk_code hX hC c _ _ _ _ _ _ hn hc hσ h0
      · simp only [Option.some.injEq, Prod.mk.injEq] at e
        obtain ⟨rfl, rfl, rfl, rfl⟩ := e
        exact bk_code hX hC c _ _ _ _ _ _ hn hc hσ h0
    · exact bk_code hX hC c _ _ _ _ _ _ hn hc hσ e
  | .loop c, σ, h, x, σ', h', lg, hn, hc, hσ, e => by
    simp only [gcode] at e
    exact bk_loop (fun σ h x σ' h' lg hn hc hσ e => bk_code hX hC c σ h x σ' h' lg hn hc hσ e) _ _ _ _ _ _ _ hn hc hσ e
  | .exit id, σ, h, x, σ', h', lg, hn, hc, hσ, e => by
    simp only [gcode, Option.some.injEq, Prod.mk.injEq] at e
    obtain ⟨rfl, rfl, rfl, rfl⟩ := e
    exact ⟨.nil hc trivial, hσ⟩
  | .ret, σ, h, x, σ', h', lg, hn, hc, hσ, e => by
    simp only [gcode, Option.some.injEq, Prod.mk.injEq] at e
    obtain ⟨rfl, rfl, rfl, rfl⟩ := e
    exact ⟨.nil hc trivial, hσ⟩
  | .label l, σ, h, x, σ', h', lg, hn, hc, hσ, e => by
    simp only [gcode, Option.some.injEq, Prod.mk.injEq] at e
    obtain ⟨rfl, rfl, rfl, rfl⟩ := e
    exact ⟨.nil hc trivial, hσ⟩
  | .goto l, σ, h, x, σ', h', lg, _, _, _, e => by simp only [gcode] at e; cases e
  | .scope c, σ, h, x, σ', h', lg, _, _, _, e => by simp only [gcode] at e; cases e
  | .rangeFunc .., σ, h, x, σ', h', lg, _, _, _, e => by simp only [gcode] at e; cases e
theorem bk_result {σ : GS} (hσ : ∀ t, Bk S (σ t)) (hc : HC S h) {x : ResultVar} {y : GV × List Nat} (e : gresult P σ h x = some y) : Bk S y.1 ∧ LS S h.length y.2 := by
  unfold gresult at e
  split at e
  · cases e; exact ⟨hσ _, .nil⟩
  · exact bk_load e (hσ _) hc
theorem gcall_reach (hX : XReach C) : ∀ k, CReach (gcall P C k)
  | 0, S, f, args, h, v, h', lg, _, _, _, e => by cases e
  | k + 1, S, f, args, h, v, h', lg, hn, ha, hc, e => by
    unfold gcall at e
    split at e
    · cases e
    · split at e
      · cases e
      · split at e
        · cases e
        · rename_i x σ2 h2 l2 hx h0
          obtain ⟨⟨v', r⟩, hr, e⟩ := Option.map_eq_some_iff.1 e
          simp only [Prod.mk.injEq] at e
          obtain ⟨rfl, rfl, rfl⟩ := e
          obtain ⟨r1, s1⟩ := bk_code hX (gcall_reach hX k) _ _ _ _ _ _ _ hn hc (fun t => by
            show Bk S (args.getD t .un)
            rw [List.getD_eq_getElem?_getD]
            cases hg : args[t]? with
            | none => trivial
            | some g => exact ha.get hg) h0
          refine r1.step (v := v') ?_
          unfold gresults at hr
          simp only [Option.bind_eq_bind, obsi] at hr
          obtain ⟨vs, h1, hr⟩ := hr
          have hall := mapM_all (Q := fun y => Bk S y.1 ∧ LS S h2.length y.2) h1 fun a _ b hb => bk_result s1 r1.hc hb
          split at hr
          · cases hr
            obtain ⟨a1, a2⟩ := hall _ (List.mem_singleton.2 rfl)
            exact .same r1.hc a1 a2
          · cases hr
            have hb : Bks S (vs.map (·.1)) := Bks_iff.2 fun g hg => by
              obtain ⟨y, hy, rfl⟩ := List.mem_map.1 hg
              exact (hall y hy).1
            refine .same r1.hc (by exact hb) fun i hi => ?_
            · obtain ⟨l, hl, hi⟩ := List.mem_flatten.1 hi
              obtain ⟨y, hy, rfl⟩ := List.mem_map.1 hl
              exact (hall y hy).2 i hi
        · cases e
end
end Go.Proofs.Ytlbnioapepelnaa.G
