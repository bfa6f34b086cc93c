/- No function that a law reaches comes back to itself: shown by a list that sets callers ahead of callees, in place of the model's own search. -/
import GoSem.ClaimJoined
import Derived.KernelRfl
namespace Go.Proofs.YtklhdbkaejbajaaDoor.G
open Go
set_option linter.unusedVariables false

def leads (P : Program) (g : FuncId) : List FuncId := (P.funcs[g]?).elim [] P.leadsTo
def inB (L : List Nat) (x : Nat) : Bool := L.any fun y => Nat.beq x y
theorem inB_iff {L : List Nat} {x : Nat} : inB L x = true ↔ x ∈ L := by
  unfold inB
  rw [List.any_eq_true]
  constructor
  · rintro ⟨y, h1, h2⟩
    rw [Nat.eq_of_beq_eq_true h2]; exact h1
  · intro h
    exact ⟨x, h, Nat.beq_refl x⟩
/-- Callers ahead of callees. -/
def topo (P : Program) : List FuncId → Bool
  | [] => true
  | g :: L => (leads P g).all (inB L) && !inB L g && topo P L
theorem topo_closed {P : Program} : ∀ {L : List FuncId}, topo P L = true → ∀ x ∈ L, ∀ y ∈ leads P x, y ∈ L
  | [], _, x, hx, _, _ => by cases hx
  | g :: L, h, x, hx, y, hy => by
    simp only [topo, Bool.and_eq_true, List.all_eq_true] at h
    rcases List.mem_cons.1 hx with rfl | hx
    · exact List.mem_cons_of_mem _ (inB_iff.1 (h.1.1 y hy))
    · exact List.mem_cons_of_mem _ (topo_closed h.2 x hx y hy)
theorem closureVia_sub {P : Program} {S : FuncId → Prop} (hS : ∀ x, S x → ∀ y ∈ leads P x, S y) : ∀ (n : Nat) (todo seen : List FuncId), (∀ x ∈ todo, S x) → (∀ x ∈ seen, S x) → ∀ x ∈ P.closureVia n todo seen, S x
  | 0, todo, seen, _, h2, x, hx => by
    unfold Program.closureVia at hx
    exact h2 x (List.mem_reverse.1 hx)
  | n + 1, [], seen, _, h2, x, hx => by
    unfold Program.closureVia at hx
    exact h2 x (List.mem_reverse.1 hx)
  | n + 1, f :: todo, seen, h1, h2, x, hx => by
    unfold Program.closureVia at hx
    split at hx
    · exact closureVia_sub hS n todo seen (fun z hz => h1 z (List.mem_cons_of_mem _ hz)) h2 x hx
    · refine closureVia_sub hS n _ _ (fun z hz => ?_) (fun z hz => ?_) x hx
      · rcases List.mem_append.1 hz with hz | hz
        · exact hS f (h1 f (List.mem_cons_self ..)) z hz
        · exact h1 z (List.mem_cons_of_mem _ hz)
      · rcases List.mem_cons.1 hz with rfl | hz
        · exact h1 _ (List.mem_cons_self ..)
        · exact h2 z hz
theorem closure_sub {P : Program} {S : FuncId → Prop} (hS : ∀ x, S x → ∀ y ∈ leads P x, S y) {f : FuncId} (hf : S f) : ∀ x ∈ P.closure f, S x := by
  unfold Program.closure
  exact closureVia_sub hS _ _ _ (fun x hx => by rw [List.mem_singleton.1 hx]; exact hf) (fun x hx => by cases hx)
theorem topo_ring {P : Program} : ∀ {L : List FuncId}, topo P L = true → ∀ g ∈ L, ∀ h ∈ leads P g, g ∉ P.closure h
  | [], _, g, hg, _, _ => by cases hg
  | k :: L, ht, g, hg, h, hh => by
    have ht' := ht
    simp only [topo, Bool.and_eq_true, List.all_eq_true, Bool.not_eq_true'] at ht
    rcases List.mem_cons.1 hg with rfl | hg
    · intro hc
      have := closure_sub (S := fun x => x ∈ L) (fun x hx y hy => topo_closed ht.2 x hx y hy) (inB_iff.1 (ht.1.1 h hh)) _ hc
      rw [inB_iff.2 this] at ht
      exact absurd ht.1.2 (by simp)
    · exact topo_ring ht.2 g hg h hh
theorem recurses_false {P : Program} {f : FuncId} (L : List FuncId) (hL : topo P L = true) (hf : inB L f = true) (hu : P.unfollowed f = false) : P.recurses f = false := by
  unfold Program.recurses
  rw [hu, Bool.false_or, Bool.eq_false_iff]
  intro h
  obtain ⟨g, h1, h2⟩ := List.any_eq_true.1 h
  obtain ⟨k, h3, h4⟩ := List.any_eq_true.1 h2
  have hg : g ∈ L := closure_sub (S := fun x => x ∈ L) (fun x hx y hy => topo_closed hL x hx y hy) (inB_iff.1 hf) g h1
  exact topo_ring hL g hg k h3 (by simpa using h4)
end Go.Proofs.YtklhdbkaejbajaaDoor.G
