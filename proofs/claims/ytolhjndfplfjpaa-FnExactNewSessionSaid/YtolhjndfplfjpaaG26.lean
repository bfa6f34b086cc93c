/- More calls, more rounds: what was answered is answered still. -/
import Derived.Test.YtolhjndfplfjpaaG25
namespace Go.Proofs.Ytolhjndfplfjpaa.G
open Go.RowKit
set_option linter.unusedVariables false
set_option linter.unusedSimpArgs false

def Le (c c' : GCall) : Prop := ∀ f args h r, c f args h = some r → c' f args h = some r

section
variable {P : Program} {C : Cfg} {c c' : GCall} {nt : Nat}

theorem gsplit_mono (hc : Le c c') {g : FuncId} (e : gsplit c g = true) : gsplit c' g = true := by
  unfold gsplit at e ⊢
  split at e
  · rename_i h1 l1 h2 l2 e1 e2
    rw [hc _ _ _ _ e1, hc _ _ _ _ e2]
  · cases e

theorem gcallee_mono (hc : Le c c') {g : FuncId} {args : List GV} {h : Heap} {r : GV × Heap × Lg} (e : gcallee P C c g args h = some r) : gcallee P C c' g args h = some r := by
  unfold gcallee at e ⊢
  split at e
  · cases e
  · rename_i fn hfn
    try simp only [hfn]
    split at e
    · rename_i hb
      rw [if_pos hb]
      split at e
      · rename_i ex hex
        try simp only [hex]
        exact e
      · rename_i hex
        try simp only [hex]
        split at e
        · rename_i hh
          rw [if_pos hh]
          split at e
          · rename_i hsp
            rw [if_pos hsp]
            split at e
            · rename_i hgs
              rw [if_pos (gsplit_mono hc hgs)]
              exact e
            · cases e
          · rename_i hsp
            rw [if_neg hsp]
            exact hc _ _ _ _ e
        · rename_i hh
          rw [if_neg hh]
          split at e
          · rename_i hfr
            rw [if_pos hfr]
            simp only [Option.bind_eq_bind, Option.bind_eq_some_iff] at e ⊢
            obtain ⟨xs, hxs, e⟩ := e
            refine ⟨xs, hxs, ?_⟩
            split at e
            · rename_i hsp
              rw [if_pos hsp]
              split at e
              · rename_i hgs
                rw [if_pos (gsplit_mono hc hgs)]
                exact e
              · cases e
            rename_i hsp
            rw [if_neg hsp]
            simp only [Option.bind_eq_some_iff] at e ⊢
            obtain ⟨y, hy, rest⟩ := e
            exact ⟨y, hc _ _ _ _ hy, rest⟩
          rename_i hfr
          rw [if_neg hfr]
          simp only [Option.bind_eq_bind, Option.bind_eq_some_iff] at e ⊢
          obtain ⟨xs, hxs, y, hy, rest⟩ := e
          exact ⟨xs, hxs, y, hc _ _ _ _ hy, rest⟩
    · cases e

theorem gop_mono (hc : Le c c') {ev : Operand → Option GV} {o : Oper} {h : Heap} {r : GV × Heap × Lg} (e : gop P C c ev o h = some r) : gop P C c' ev o h = some r := by
  cases ho : o.op with
  | call cl =>
    simp only [gop, ho] at e ⊢
    cases hk : cl.callee with
    | builtin b => rw [hk] at e; exact e
    | value f =>
      rw [hk] at e
      simp only [Option.bind_eq_bind, Option.bind_eq_some_iff] at e ⊢
      obtain ⟨v, hv, e⟩ := e
      refine ⟨v, hv, ?_⟩
      split at e
      · simp only [Option.bind_eq_some_iff] at e ⊢
        obtain ⟨gs, has, e⟩ := e
        exact ⟨gs, has, gcallee_mono hc e⟩
      · cases e
    | invoke r m => rw [hk] at e; cases e
  | makeFunc f a b => cases f <;> (simp only [gop, ho] at e ⊢; exact e)
  | _ => simp only [gop, ho] at e ⊢; exact e

theorem gops_mono (hc : Le c c') {ops : Array Oper} : ∀ (l : List Nat) (σ : GS) (h : Heap) (r : GS × Heap × List Rec), gops P C c nt ops l σ h = some r → gops P C c' nt ops l σ h = some r
  | [], σ, h, r, e => e
  | j :: rest, σ, h, r, e => by
    unfold gops at e ⊢
    cases hj : ops[j]? with
    | none => rw [hj] at e; cases e
    | some o =>
      rw [hj] at e
      simp only at e ⊢
      split at e
      · rename_i hd
        rw [if_pos hd]
        split at e
        · rename_i hw
          rw [if_pos hw]
          simp only [Option.bind_eq_bind, Option.bind_eq_some_iff] at e ⊢
          obtain ⟨x, hx, y, hy, rest'⟩ := e
          exact ⟨x, gop_mono hc hx, y, gops_mono hc rest _ _ _ hy, rest'⟩
        · rename_i hw
          rw [if_neg hw]
          simp only [Option.bind_eq_bind, Option.bind_eq_some_iff] at e ⊢
          obtain ⟨y, hy, rest'⟩ := e
          exact ⟨y, gops_mono hc rest _ _ _ hy, rest'⟩
      · cases e

theorem gregion_mono (hc : Le c c') {ops : Array Oper} {draw : Bool} {σ : GS} {h : Heap} {r : GS × Heap × Lg} (e : gregion P C c nt ops draw σ h = some r) : gregion P C c' nt ops draw σ h = some r := by
  unfold gregion at e ⊢
  simp only [Option.bind_eq_bind, Option.bind_eq_some_iff] at e ⊢
  obtain ⟨x, hx, e⟩ := e
  exact ⟨x, gops_mono hc _ _ _ _ hx, e⟩

theorem gloop_mono {b b' : GS → Heap → GR} (hb : ∀ σ h r, b σ h = some r → b' σ h = some r) : ∀ (k k' : Nat) (σ : GS) (h : Heap) (r : GX × GS × Heap × Lg), k ≤ k' → gloop b k σ h = some r → gloop b' k' σ h = some r
  | 0, k', σ, h, r, _, e => by cases e
  | k + 1, 0, σ, h, r, hk, e => by omega
  | k + 1, k' + 1, σ, h, r, hk, e => by
    unfold gloop at e ⊢
    split at e
    · rename_i σ1 h1 l1 h0
      rw [hb _ _ _ h0]
      obtain ⟨x, hx, e⟩ := Option.map_eq_some_iff.1 e
      exact Option.map_eq_some_iff.2 ⟨x, gloop_mono hb k k' _ _ _ (by omega) hx, e⟩
    · rename_i hne
      rw [hb _ _ _ e]
      obtain ⟨x, σ1, h1, l1⟩ := r
      cases x with
      | nrm => exact (hne _ _ _ e).elim
      | _ => rfl

theorem gcode_mono (hc : Le c c') {k k' : Nat} (hk : k ≤ k') : ∀ (x : Code) (σ : GS) (h : Heap) (r : GX × GS × Heap × Lg), gcode P C c k nt x σ h = some r → gcode P C c' k' nt x σ h = some r
  | .skip, σ, h, r, e => e
  | .region id ops draw, σ, h, r, e => by
    simp only [gcode] at e ⊢
    obtain ⟨y, hy, e⟩ := Option.map_eq_some_iff.1 e
    exact Option.map_eq_some_iff.2 ⟨y, gregion_mono hc hy, e⟩
  | .seq a b, σ, h, r, e => by
    simp only [gcode] at e ⊢
    split at e
    · rename_i σ1 h1 l1 h0
      rw [gcode_mono hc hk a _ _ _ h0]
      obtain ⟨y, hy, e⟩ := Option.map_eq_some_iff.1 e
      exact Option.map_eq_some_iff.2 ⟨y, gcode_mono hc hk b _ _ _ hy, e⟩
    · rename_i hne
      rw [gcode_mono hc hk a _ _ _ e]
      obtain ⟨x, σ1, h1, l1⟩ := r
      cases x with
      | nrm => exact (hne _ _ _ e).elim
      | _ => rfl
  | .cond o a b, σ, h, r, e => by
    simp only [gcode] at e ⊢
    split at e
    · rename_i t ht
      cases t with
      | true => exact gcode_mono hc hk a _ _ _ e
      | false => exact gcode_mono hc hk b _ _ _ e
    · cases e
  | .block id a, σ, h, r, e => by
    simp only [gcode] at e ⊢
    split at e
    · rename_i id' σ1 h1 l1 h0
      rw [gcode_mono hc hk a _ _ _ h0]
      exact e
    · rename_i hne
      rw [gcode_mono hc hk a _ _ _ e]
      obtain ⟨x, σ1, h1, l1⟩ := r
      cases x with
      | ext id => exact (hne _ _ _ _ e).elim
      | _ => rfl
  | .loop a, σ, h, r, e => by
    simp only [gcode] at e ⊢
    exact gloop_mono (fun σ h r e => gcode_mono hc hk a σ h r e) _ _ _ _ _ hk e
  | .exit id, σ, h, r, e => e
  | .ret, σ, h, r, e => e
  | .label l, σ, h, r, e => e
  | .goto l, σ, h, r, e => by simp only [gcode] at e; cases e
  | .scope a, σ, h, r, e => by simp only [gcode] at e; cases e
  | .rangeFunc .., σ, h, r, e => by simp only [gcode] at e; cases e

/-- A function's answer, its callees told by c. -/
def gfun (P : Program) (C : Cfg) (c : GCall) (k : Nat) : GCall := fun f args h =>
  match P.funcs[f]? with
  | none => none
  | some fn =>
    match fn.body with
    | none => none
    | some b =>
      match gcode P C c k (max args.length fn.ntmps) b (fun t => args.getD t .un) h with
      | some (.ext _, _, _, _) => none
      | some (_, σ, h', l) => (gresults P fn σ h').map fun (v, r) => (v, h', l.add ⟨r, []⟩)
      | none => none

theorem gcall_succ (k : Nat) : gcall P C (k + 1) = gfun P C (gcall P C k) k := rfl

theorem gfun_mono (hc : Le c c') {k k' : Nat} (hk : k ≤ k') : Le (gfun P C c k) (gfun P C c' k') := by
  intro f args h r e
  unfold gfun at e ⊢
  split at e
  · cases e
  · rename_i fn hfn
    try simp only [hfn]
    split at e
    · cases e
    · rename_i b hb
      try simp only [hb]
      split at e
      · cases e
      · rename_i x σ h' l hne h0
        rw [gcode_mono hc hk b _ _ _ h0]
        cases x with
        | ext id => exact (hne _ rfl).elim
        | _ => exact e
      · cases e

theorem gcall_le : ∀ (k : Nat), Le (gcall P C k) (gcall P C (k + 1))
  | 0 => fun f args h r e => by cases e
  | k + 1 => by
    rw [gcall_succ, gcall_succ]
    exact gfun_mono (gcall_le k) (Nat.le_succ k)

theorem gcall_mono {k k' : Nat} (h : k ≤ k') : Le (gcall P C k) (gcall P C k') := by
  induction k' with
  | zero => rw [Nat.le_zero.1 h]; exact fun _ _ _ _ e => e
  | succ n ih =>
    rcases Nat.lt_or_ge k (n + 1) with h1 | h1
    · exact fun f args h r e => gcall_le n f args h r (ih (by omega) f args h r e)
    · rw [show k = n + 1 by omega]; exact fun _ _ _ _ e => e

/-- f answers r. -/
def Gives (P : Program) (C : Cfg) (f : FuncId) (args : List GV) (h : Heap) (r : GV × Heap × Lg) : Prop := ∃ k, gcall P C k f args h = some r
end

end Go.Proofs.Ytolhjndfplfjpaa.G
