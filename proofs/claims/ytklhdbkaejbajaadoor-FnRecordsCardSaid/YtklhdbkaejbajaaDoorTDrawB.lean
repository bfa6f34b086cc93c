/- Draws: codes, bytes that are made. -/
import Derived.Test.YtklhdbkaejbajaaDoorTDraw5
namespace Go.Proofs.YtklhdbkaejbajaaDoor.G
open Go.RowKit Go.Lib
set_option linter.unusedVariables false
set_option linter.unusedSimpArgs false

theorem bor_cy {H : Heap} {t : Bool} {l : List UInt8} : bor 9 H (fzl t 1 cy l) = some (fzl true 1 cy l, []) := bor_fzl (d := 8) (fun _ => rfl) l
theorem bors_cy {H : Heap} {t : Bool} {l : List UInt8} : bors H [fzl t 1 cy l] = some [fzl true 1 cy l] := by rw [bors_cons, bor_cy]; rfl
theorem code_of {a0 : List Int} (h : inSl (fun x1 : Int => (Lit.int .u8 x1).wf = true) a0) : ∃ code : List UInt8, fzl true 1 (fun x1 : Int => [GV.int .u8 x1]) a0 = fzl true 1 cy code ∧ code.length = a0.length := by
  have key : ∀ l : List Int, (∀ x ∈ l, (Lit.int .u8 x).wf = true) → ∃ code : List UInt8, l = code.map (fun b => (b.toNat : Int)) := by
    intro l
    induction l with
    | nil => exact fun _ => ⟨[], rfl⟩
    | cons x l ih =>
      intro h
      obtain ⟨c, hc⟩ := ih fun y hy => h y (by simp [hy])
      have hx := h x (by simp)
      simp [Lit.wf, IntKind.min, IntKind.max, IntKind.bits, IntKind.signed] at hx
      refine ⟨UInt8.ofNat x.toNat :: c, ?_⟩
      rw [List.map_cons, ← hc]
      congr 1
      rw [UInt8.toNat_ofNat', Nat.mod_eq_of_lt (by omega)]
      omega
  obtain ⟨code, rfl⟩ := key a0 h.2
  refine ⟨code, ?_, by simp⟩
  cases code with
  | nil => rfl
  | cons b code =>
    simp only [List.map_cons, fzl]
    congr 1
    · simp
    · rw [List.flatMap_cons, List.flatMap_cons, List.flatMap_map]
theorem laws_big_spec (code : List UInt8) : NN fn.laws_big [fzl true 1 cy code] = some (.bool (decide (4096 < code.length))) := by
  apply S.laws_big.gives (k := 0)
  have kl : klen (fzl true 1 cy code) = some (.int .i64 (code.length : Nat)) := klen_fzl
  have gt : kbin .gtr (.int .i64 (code.length : Nat)) (.int .i64 4096) = some (.bool (decide (4096 < code.length))) := by
    rw [kbin_gtr]; congr 2; rw [Bool.eq_iff_iff]; simp; omega
  generalize fzl true 1 cy code = C at *
  generalize GV.int .i64 (code.length : Nat) = L at *
  simp [S.laws_big.run, kl, gt]
theorem zeros_cy : ∀ n, zeros [.int .u8 0] n = (List.replicate n (0 : UInt8)).flatMap cy
  | 0 => rfl
  | n + 1 => by rw [List.replicate_succ, List.flatMap_cons, ← zeros_cy n]; rfl
theorem make_bytes {H : Heap} {m : Nat} (hm : m ≤ 1048576) {x : Int} (hx : x = (m : Int)) : kmake [.int .u8 0] 1 1 (.int .i64 x) (.int .i64 x) H = some (.sl H.length 0 m m 1, H ++ [(List.replicate m (0 : UInt8)).flatMap cy]) := by
  subst hx
  unfold kmake
  simp only [kint_int, Option.bind_some]
  rw [if_pos ⟨by omega, Int.le_refl _, by simp only [maxLen]; omega, by simp only [roomMax]; omega, rfl⟩, zeros_cy]
  simp

theorem l1New_nil (code : List UInt8) (hl : code.length ≤ 1048576) : ∃ H', HH fn.spec_l1New [fzl true 1 cy code] [] = some (.ptr 0 0 3, H') ∧ Cur 0 code H' := by
  obtain ⟨H1, e1, c1, _⟩ := spec_l1New_spec code [] hl
  exact ⟨H1, e1, c1⟩
theorem chk_tab {n0 n1 m0 m1 p : Nat} (hp : p < n0) : chk [(2, 4)] [⟨2, n0, n1, ⟨[], []⟩⟩, ⟨4, m0, m1, ⟨[p], [p]⟩⟩] = true := by
  have h : Nat.ble n0 p = false := by
    cases hb : Nat.ble n0 p with
    | false => rfl
    | true => have := Nat.le_of_ble_eq_true hb; omega
  simp [chk, meets, touches, h]
  exact .inl hp
end Go.Proofs.YtklhdbkaejbajaaDoor.G
