/- From this machine to the statements: a law that answers true for all data answers true for all arguments. -/
import Derived.Test.YtlbnioapepelnaaZ255b3419
import Derived.Test.YtlbnioapepelnaaZe239d78e
import Derived.ChangeOld
import Derived.OpenShut
set_option linter.unusedVariables false
namespace Go.Proofs.Ytlbnioapepelnaa.G
open Go.RowKit Go.ChangeShapes Go.WideShapes Go.ChangeAt

theorem frz_true {d : Nat} {h : Heap} {v : GV} {r : List Nat} (e : frz d h v = some (.bool true, r)) : v = .bool true := by
  cases d with
  | zero => cases e
  | succ d =>
    cases v with
    | bool b => cases e; rfl
    | sl i off len cap es =>
      simp only [frz, Option.bind_eq_bind, obsi] at e
      obtain ⟨cs, _, xs, _, e⟩ := e
      split at e
      · cases len <;> cases e
      · cases e
    | fz t n es cells => cases n <;> cases t <;> cases e
    | agg cs => simp only [frz, Option.bind_eq_bind, obsi] at e; obtain ⟨xs, _, e⟩ := e; cases e
    | tup cs => simp only [frz, Option.bind_eq_bind, obsi] at e; obtain ⟨xs, _, e⟩ := e; cases e
    | _ => cases e

theorem law_N {P : Program} {C : Cfg} (hM : P.follows .mixedOrders = true) (hN : NameOk P) (hX : XSound P C) {f : FuncId} {args : List GV} {us : List Value} {W : World} (hx : C.ext f = none) (e : nω P C f args = some (.bool true))
    (hgl : GL W (fun c => c < W.heap.size)) (hv : VRs W E0 (fun _ => False) args (fun c => c < W.heap.size) us) : Calls P f us.toArray W fun e w' => e = .returned (.bool true) ∧ Below W.heap.size W w' := by
  unfold nω at e
  simp only [hx] at e
  obtain ⟨⟨v, h'⟩, h1, h2⟩ := obsi.1 e
  obtain ⟨⟨v', r⟩, h3, h4⟩ := Option.map_eq_some_iff.1 h2
  simp only at h4 h3
  subst h4
  have := frz_true h3
  subst this
  obtain ⟨k, lg, h5⟩ := kω_some.1 h1
  exact law_calls hM hN hX (k := k) (by rw [h5]; rfl) (fun _ h => h) hgl (VRs_mono (w := W) ⟨fun _ _ h => h, fun _ _ _ h => h, fun _ h => h.elim⟩ _ _ _ _ (fun _ h => .inl h) (fun _ _ => rfl) hv)

theorem one_cell' {v u : Value} (h : v.cells.toList = [u]) (hv : ∀ cs, v = .agg cs → False) : v = u := by
  cases v with
  | agg cs => exact (hv cs rfl).elim
  | _ => simpa [Value.cells] using h

theorem told_one {W : World} {g : GV} {v : Value} (h : Told W [g] v.cells.toList) (hv : ∀ cs, v = .agg cs → False) : VR W E0 (fun _ => False) g (fun c => c < W.heap.size) v := by
  obtain ⟨u, us, h1, h2, h3⟩ := h
  simp only [VRsi] at h3
  subst h3
  rw [one_cell' h1 hv]
  exact h2
theorem tells_sl {α : Type} {P : Program} {t e es : Nat} {mk : α → List GV} {I : α → Prop} (ht : P.underlying t = some (.slice e)) (hs : P.cellsOf t = 1) (hes : P.cellsOf e = es) (he : Tells P e mk I) : Tells P t (fun xs : List α => [fzl true es mk xs]) (inSl I) := by
  subst hes
  exact tells_slice ht hs he

theorem below_allT {H : Type} {enc : TypeId × Value → H} {P : Program} (hl : laidOutB P = true) {W W' : World} (hb : Below W.heap.size W W') :
    ∀ {ts : List TypeId} {vs : List Value} {ds : List (DataW H)} {ps : List MemPlace}, (∀ t ∈ ts, P.readableRec t = true ∧ t < P.types.size) →
      DataW.TrodAll enc P W 0 (fun _ => true) true ts vs ds ps → DataW.TrodAll enc P W' 0 (fun b => decide (b < W.heap.size)) true ts vs ds ps
  | [], [], [], _, _, h => h
  | t :: ts, v :: vs, d :: ds, ps, hr, h => by
    obtain ⟨p, q, h1, h2, rfl⟩ := h
    obtain ⟨a, b⟩ := hr t (by simp)
    exact ⟨p, q, Below.trod hl a b h1 hb (by obtain ⟨m, hm⟩ := h1; exact DataW.trod_lt m _ _ _ hm), below_allT hl hb (fun t ht => hr t (by simp [ht])) h2, rfl⟩
  | [], [], _ :: _, _, _, h => h.elim
  | [], _ :: _, _, _, _, h => h.elim
  | _ :: _, [], _, _, _, h => h.elim
  | _ :: _, _ :: _, [], _, _, h => h.elim


end Go.Proofs.Ytlbnioapepelnaa.G
