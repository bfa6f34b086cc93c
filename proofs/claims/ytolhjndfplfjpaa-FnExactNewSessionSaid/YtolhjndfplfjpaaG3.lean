/- Steps of the two machines, one behind the other. -/
import Derived.Test.YtolhjndfplfjpaaG2
namespace Go.Proofs.Ytolhjndfplfjpaa.G
open Go.RowKit
set_option linter.unusedVariables false

/-- What a step asks of what was there: F: the blocks that it may look at; N: how many blocks there are in the end. -/
structure Pre (Pt : Nat → Prop) (w : World) (ρ : Map) (Pp : Nat → Prop) (h : Heap) (F : Nat → Prop) (N : Nat) : Prop where
  lt : ∀ c, Pp c ∨ Pt c → c < w.heap.size
  hb : ∀ i, F i → HB w ρ Pp Pt h i
  inj : ∀ i j c, F i → F j → i ≠ j → At ρ h i c → ¬ At ρ h j c
  nw : ∀ i n, h.length ≤ i → i < N → ρ i n = none
  gl : GL w Pp

section
variable {Pt Pp : Nat → Prop} {w : World} {ρ : Map} {h : Heap} {F : Nat → Prop} {N : Nat}

theorem Pre.sub {F' : Nat → Prop} (p : Pre Pt w ρ Pp h F N) (hs : ∀ i, F' i → F i) : Pre Pt w ρ Pp h F' N :=
  ⟨p.lt, fun i hi => p.hb i (hs i hi), fun i j c hi hj => p.inj i j c (hs i hi) (hs j hj), p.nw, p.gl⟩
theorem Pre.less {N' : Nat} (p : Pre Pt w ρ Pp h F N) (hs : N' ≤ N) : Pre Pt w ρ Pp h F N' :=
  ⟨p.lt, p.hb, p.inj, fun i n h1 h2 => p.nw i n h1 (by omega), p.gl⟩

theorem At.lt {i c : Nat} (hb : HB w ρ Pp Pt h i) (ha : At ρ h i c) : c < w.heap.size ∧ ¬ Pp c ∧ ¬ Pt c := by
  obtain ⟨cs, loc, h1, h2, rfl⟩ := ha
  obtain ⟨⟨loc', h3, ⟨rc, ty, lo, hi, h4, _⟩, h5, h6⟩, _⟩ := hb cs h1
  rw [h2] at h3
  cases h3
  exact ⟨(Array.getElem?_eq_some_iff.1 h4).1, h5, h6⟩

variable {lg : Lg} {w' : World} {ρ' : Map} {Pp' : Nat → Prop} {h' : Heap}

/-- Blocks that stay are read as they were. -/
theorem Step.stays (st : Step Pt w ρ Pp h lg w' ρ' Pp' h') (p : Pre Pt w ρ Pp h F N) (hF : ∀ i, i ∈ lg.w → F i) : ∀ c, Pp c ∨ Pt c → w'.heap[c]? = w.heap[c]? := fun c hc =>
  st.kept c (p.lt c hc) fun i hi ha => by
    have := (At.lt (p.hb i (hF i hi)) ha).2
    rcases hc with hc | hc
    · exact this.1 hc
    · exact this.2 hc

theorem Step.val (st : Step Pt w ρ Pp h lg w' ρ' Pp' h') (p : Pre Pt w ρ Pp h F N) (hF : ∀ i, i ∈ lg.w → F i) {g : GV} {v : Value} (hv : VR w ρ Pp g Pt v) : VR w' ρ' Pp' g Pt v :=
  VR_mono st.keep g Pt Pt v (fun _ h => .inl h) (st.stays p hF) hv
theorem Step.vals (st : Step Pt w ρ Pp h lg w' ρ' Pp' h') (p : Pre Pt w ρ Pp h F N) (hF : ∀ i, i ∈ lg.w → F i) {g : List GV} {v : List Value} (hv : VRs w ρ Pp g Pt v) : VRs w' ρ' Pp' g Pt v :=
  VRs_mono st.keep g Pt Pt v (fun _ h => .inl h) (st.stays p hF) hv

/-- A block that was not written lies as it did. -/
theorem Step.block (st : Step Pt w ρ Pp h lg w' ρ' Pp' h') (p : Pre Pt w ρ Pp h F N) (hF : ∀ i, i ∈ lg.w → F i) {i : Nat} (hi : F i) (hlt : i < h.length) (hw : i ∉ lg.w) : HB w' ρ' Pp' Pt h' i := by
  intro cs hcs
  rw [st.hkeep i hlt hw] at hcs
  obtain ⟨⟨loc, h1, ⟨rc, ty, lo, hi', h4, h5, h6, h7⟩, h8, h9⟩, h10⟩ := p.hb i hi cs hcs
  have hr : ∀ n, ρ' i n = ρ i n := fun n => st.rhoold i n (.inl ⟨hlt, hw⟩)
  have hc : loc.1 < w.heap.size := (Array.getElem?_eq_some_iff.1 h4).1
  refine ⟨⟨loc, by rw [hr]; exact h1, ⟨rc, ty, lo, hi', ?_, h5, h6, fun j g hg => ?_⟩, fun hp => ?_, h9⟩, fun m hm => by rw [hr]; exact h10 m hm⟩
  · rw [st.kept loc.1 hc fun j hj ha => ?_]
    · exact h4
    · exact p.inj i j loc.1 hi (hF j hj) (fun e => hw (e ▸ hj)) ⟨cs, loc, hcs, h1, rfl⟩ ha
  · obtain ⟨u, h11, h12⟩ := h7 j g hg
    exact ⟨u, h11, st.val p hF h12⟩
  · rcases st.ppnew _ hp with h | h
    · exact h8 h
    · omega

theorem Step.at_old (st : Step Pt w ρ Pp h lg w' ρ' Pp' h') {i c : Nat} (hlt : i < h.length) (hw : i ∉ lg.w) : At ρ' h' i c ↔ At ρ h i c := by
  unfold At
  rw [st.hkeep i hlt hw]
  simp only [st.rhoold i _ (.inl ⟨hlt, hw⟩)]

theorem At.bound {i c : Nat} (ha : At ρ h i c) : i < h.length := by
  obtain ⟨cs, loc, h1, _⟩ := ha
  exact (List.getElem?_eq_some_iff.1 h1).1

theorem Step.after (st : Step Pt w ρ Pp h lg w' ρ' Pp' h') (p : Pre Pt w ρ Pp h F N) (hF : ∀ i, i ∈ lg.w → F i) : Pre Pt w' ρ' Pp' h' F N := by
  refine ⟨fun c hc => ?_, fun i hi => ?_, fun i j c hi hj hne ha hb => ?_, fun i n h1 h2 => ?_, p.gl.mono st.keep st.os st.tape st.output st.size fun c hc => st.stays p hF c (.inl hc)⟩
  · have := st.size
    rcases hc with hc | hc
    · rcases st.ppnew c hc with h | h
      · have := p.lt c (.inl h); omega
      · exact h.2
    · have := p.lt c (.inr hc); omega
  · by_cases hw : i ∈ lg.w
    · exact st.blocks i (.inl hw)
    · by_cases hlt : i < h.length
      · exact st.block p hF hi hlt hw
      · intro cs hcs
        exact st.blocks i (.inr ⟨by omega, (List.getElem?_eq_some_iff.1 hcs).1⟩) cs hcs
  · have bi := ha.bound
    have bj := hb.bound
    -- a written or new one lies in new memory, or where it was
    have key : ∀ i, F i → i < h'.length → At ρ' h' i c → At ρ h i c ∨ (w.heap.size ≤ c ∧ (i ∈ lg.w ∨ h.length ≤ i)) := by
      intro i hi hb ha
      by_cases hw : i ∈ lg.w
      · rcases st.fresh i c (.inl hw) ha with h | h
        · exact .inr ⟨h.1, .inl hw⟩
        · exact .inl h
      · by_cases hlt : i < h.length
        · exact .inl ((st.at_old hlt hw).1 ha)
        · rcases st.fresh i c (.inr ⟨by omega, hb⟩) ha with h | h
          · exact .inr ⟨h.1, .inr (by omega)⟩
          · exact .inl h
    rcases key i hi bi ha with h1 | ⟨h1, h1'⟩
    · rcases key j hj bj hb with h2 | ⟨h2, _⟩
      · exact p.inj i j c hi hj hne h1 h2
      · have := (At.lt (p.hb i hi) h1).1
        omega
    · rcases key j hj bj hb with h2 | ⟨h2, h2'⟩
      · have := (At.lt (p.hb j hj) h2).1
        omega
      · have := st.inj i j c (h1'.symm.imp (fun h => ⟨h, bi⟩) id) (h2'.symm.imp (fun h => ⟨h, bj⟩) id) hne ha hb
        omega
  · rw [st.rhoold i n (.inr h1)]
    exact p.nw i n (by have := st.hlen; omega) h2

theorem Pre.more (p : Pre Pt w ρ Pp h F N) : Pre Pt w ρ Pp h (fun i => F i ∨ h.length ≤ i) N := by
  refine ⟨p.lt, fun i hi => ?_, fun i j c hi hj hne ha hb => ?_, p.nw, p.gl⟩
  · rcases hi with hi | hi
    · exact p.hb i hi
    · intro cs hcs
      have := (List.getElem?_eq_some_iff.1 hcs).1
      omega
  · have h1 := ha.bound
    have h2 := hb.bound
    exact p.inj i j c (hi.resolve_right (by omega)) (hj.resolve_right (by omega)) hne ha hb

theorem Step.trans {lg2 : Lg} {w2 : World} {ρ2 : Map} {P2 : Nat → Prop} {h2 : Heap} (st : Step Pt w ρ Pp h lg w' ρ' Pp' h') (st2 : Step Pt w' ρ' Pp' h' lg2 w2 ρ2 P2 h2)
    (p0 : Pre Pt w ρ Pp h F N) (hF0 : ∀ i, i ∈ lg.w → F i) (hF20 : ∀ i, i ∈ lg2.w → F i ∨ h.length ≤ i) : Step Pt w ρ Pp h (lg.add lg2) w2 ρ2 P2 h2 := by
  have p := p0.more
  have hF : ∀ i, i ∈ lg.w → (F i ∨ h.length ≤ i) := fun i hi => .inl (hF0 i hi)
  have p' := st.after p hF
  have p2 := st2.after p' hF20
  have hw : ∀ i, i ∈ (lg.add lg2).w ↔ i ∈ lg.w ∨ i ∈ lg2.w := fun i => by simp [Lg.add]
  have key : ∀ i c, (i ∈ (lg.add lg2).w ∨ h.length ≤ i ∧ i < h2.length) → At ρ2 h2 i c → (w.heap.size ≤ c ∧ c < w2.heap.size) ∨ At ρ h i c := by
    intro i c hi ha
    have hs := st.size
    have hs2 := st2.size
    have first : At ρ' h' i c → (w.heap.size ≤ c ∧ c < w2.heap.size) ∨ At ρ h i c := by
      intro ha'
      by_cases h1 : i ∈ lg.w ∨ h.length ≤ i
      · rcases st.fresh i c (h1.imp id fun h => ⟨h, ha'.bound⟩) ha' with h | h
        · exact .inl ⟨h.1, by omega⟩
        · exact .inr h
      · exact .inr ((st.at_old (by omega) (fun h => h1 (.inl h))).1 ha')
    by_cases h1 : i ∈ lg2.w ∨ h'.length ≤ i
    · rcases st2.fresh i c (h1.imp id fun h => ⟨h, ha.bound⟩) ha with h | h
      · exact .inl ⟨by omega, h.2⟩
      · exact first h
    · exact first ((st2.at_old (by omega) (fun h => h1 (.inl h))).1 ha)
  have mem : ∀ i, (i ∈ (lg.add lg2).w ∨ h.length ≤ i ∧ i < h2.length) → F i ∨ h.length ≤ i := fun i hi => by
    rcases hi with hi | hi
    · rcases (hw i).1 hi with h | h
      · exact hF i h
      · exact hF20 i h
    · exact .inr hi.1
  refine ⟨st2.os.trans st.os, st2.tape.trans st.tape, st2.output.trans st.output, Nat.le_trans st.size st2.size, st.keep.trans st2.keep, fun c hc hn => ?_, fun c hc => ?_, fun i n hi => ?_, Nat.le_trans st.hlen st2.hlen, fun i hi hn => ?_, fun i hi => p2.hb i (mem i hi), key, fun i j c hi hj hne ha hb' => absurd hb' (p2.inj i j c (mem i hi.symm) (mem j hj.symm) hne ha)⟩
  · have e1 := st.kept c hc (fun i hi => hn i ((hw i).2 (.inl hi)))
    rw [← e1]
    refine st2.kept c (by have := st.size; omega) fun i hi ha => ?_
    by_cases h1 : i ∈ lg.w ∨ h.length ≤ i
    · rcases st.fresh i c (h1.imp id fun h => ⟨h, ha.bound⟩) ha with h | h
      · omega
      · exact hn i ((hw i).2 (.inr hi)) h
    · exact hn i ((hw i).2 (.inr hi)) ((st.at_old (by omega) (fun h => h1 (.inl h))).1 ha)
  · have hs := st.size
    have hs2 := st2.size
    rcases st2.ppnew c hc with h | h
    · rcases st.ppnew c h with h | h
      · exact .inl h
      · exact .inr ⟨h.1, by omega⟩
    · exact .inr ⟨by omega, h.2⟩
  · have := st.hlen
    have := st2.hlen
    rcases hi with ⟨h1, h3⟩ | h1
    · rw [st2.rhoold i n (.inl ⟨by omega, fun h => h3 ((hw i).2 (.inr h))⟩), st.rhoold i n (.inl ⟨h1, fun h => h3 ((hw i).2 (.inl h))⟩)]
    · rw [st2.rhoold i n (.inr h1), st.rhoold i n (.inr (by omega))]
  · rw [st2.hkeep i (by have := st.hlen; omega) (fun h => hn ((hw i).2 (.inr h))), st.hkeep i hi (fun h => hn ((hw i).2 (.inl h)))]

/-- Nothing done. -/
theorem Step.none (Pt : Nat → Prop) (w : World) (ρ : Map) (Pp : Nat → Prop) (h : Heap) (r : List Nat) : Step Pt w ρ Pp h ⟨r, []⟩ w ρ Pp h :=
  ⟨rfl, rfl, rfl, Nat.le_refl _, Keep.refl .., fun _ _ _ => rfl, fun _ h => .inl h, fun _ _ _ => rfl, Nat.le_refl _, fun _ _ _ => rfl, fun i hi => (by rcases hi with hi | hi; exact absurd hi (by simp); omega), fun i c hi => (by rcases hi with hi | hi; exact absurd hi (by simp); omega), fun i j c hi => (by rcases hi with hi | hi; omega; exact absurd hi (by simp))⟩

/-- A draw alone. -/
theorem Step.drew (Pt : Nat → Prop) (w : World) (ρ : Map) (Pp : Nat → Prop) (h : Heap) (r : List Nat) (n : Nat) : Step Pt w ρ Pp h ⟨r, []⟩ { w with drawn := n } ρ Pp h := by
  refine ⟨rfl, rfl, rfl, Nat.le_refl _, ⟨fun _ _ h => h, fun _ _ _ h => h, fun _ h => h⟩, fun _ _ _ => rfl, fun _ h => .inl h, fun _ _ _ => rfl, Nat.le_refl _, fun _ _ _ => rfl, fun i hi => ?_, fun i c hi => ?_, fun i j c hi => ?_⟩ <;> (rcases hi with hi | hi <;> first | exact absurd hi (by simp) | omega)

end

end Go.Proofs.Ytolhjndfplfjpaa.G
