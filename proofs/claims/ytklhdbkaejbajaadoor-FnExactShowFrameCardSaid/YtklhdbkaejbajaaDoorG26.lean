/- The machine beside the model's own, and what it leaves as it is: parts 20 to 26. -/
import Derived.Test.YtklhdbkaejbajaaDoorG19
import Derived.Below
import Derived.KernelRfl
import Derived.Deep.Slices
import Derived.ChangeOld
import Derived.ChangeArms
import Derived.Carry
import Derived.ShutString
import Derived.ProofKit
namespace Go.Proofs.YtklhdbkaejbajaaDoor.G
open Go.RowKit
set_option linter.unusedVariables false
set_option linter.unusedSimpArgs false

section
variable {P : Program} {C : Cfg} {call : GCall} {nt n : Nat} {ops : Array Oper} {σs : Nat → GS} {hs : Nat → Heap} {vs : Nat → GV} {lgs : Nat → Lg} {F : Nat → Prop} {L : Lg}
  {Pt : Nat → Prop} {w0 : World} {ρ0 : Map} {P0 : Nat → Prop}

/-- What was checked of a region. -/
structure Chk (ops : Array Oper) (hs : Nat → Heap) (lgs : Nat → Lg) (n : Nat) : Prop where
  slots : slotsOk ops (masks ops) = true
  edges : edgesOk ops = true
  recs : ∀ i j, i < j → j < n → ((masks ops).getD j 0).testBit i = false → Apart (recAt hs lgs i) (recAt hs lgs j)

def setAt (S : Nat → Bool) (j : Nat) : Nat → Bool := fun k => if k = j then true else S k

theorem inv_put (hfr : CFrame call) (hn : n = ops.size) (hst : ∀ j, j < n → StepAt P C call nt ops σs hs vs lgs j) (ck : Chk ops hs lgs n) (hF : ∀ j, j < n → ∀ i, i ∈ (lgs j).r ∨ i ∈ (lgs j).w → F i) (hL : ∀ j, j < n → ∀ i, i ∈ (lgs j).w → i ∈ L.w)
    {S : Nat → Bool} {a : Act} {w : World} {ρ : Map} {Pp : Nat → Prop} (iv : Inv ops σs hs vs lgs n nt F L Pt w0 ρ0 P0 S a w ρ Pp) (hcl : ∀ j, j < n → S j = true → ∀ k, ((masks ops).getD j 0).testBit k = true → S k = true)
    {j : Nat} (hj : j < n) (hS : S j = false) (hanc : ∀ k, ((masks ops).getD j 0).testBit k = true → S k = true) {o : Oper} (ho : ops[j]? = some o) (hd : dstOk nt o.dst = true)
    (A3 : ∀ i, i ∈ (lgs j).r ∨ i ∈ (lgs j).w → cont hs lgs S n i = (hs j)[i]?)
    {u : Value} {w' : World} {ρ' : Map} {Pp' : Nat → Prop} (hu : VR w' ρ' Pp' (vs j) Pt u) (st : Step Pt w ρ Pp (hs j) (lgs j) w' ρ' Pp' (hs (j + 1))) :
    Inv ops σs hs vs lgs n nt F L Pt w0 ρ0 P0 (setAt S j) (a.put o.dst u) w' ρ' Pp' := by
  have hdj : dstAt ops j = o.dst := by simp [dstAt, ho]
  have bit : ∀ k, k < n → S k = true → ((masks ops).getD k 0).testBit j = false := by
    intro k hk hSk
    cases hb : ((masks ops).getD k 0).testBit j with
    | false => rfl
    | true => rw [hcl k hk hSk j hb] at hS; cases hS
  have bit' : ∀ k, S k = false → ((masks ops).getD j 0).testBit k = false := by
    intro k hk
    cases hb : ((masks ops).getD j 0).testBit k with
    | false => rfl
    | true => rw [hanc k hb] at hk; cases hk
  have apUp : ∀ k, j < k → k < n → S k = true → Apart (recAt hs lgs j) (recAt hs lgs k) := fun k h1 h2 h3 => ck.recs j k h1 h2 (bit k h2 h3)
  have apDn : ∀ k, k < j → S k = false → Apart (recAt hs lgs k) (recAt hs lgs j) := fun k h1 h3 => ck.recs k j h1 hj (bit' k h3)
  have fr := hs_frame hfr (hst j hj)
  have atc : ∀ i c, i ∈ (lgs j).w → At ρ (hs j) i c → Atc ρ (cont hs lgs S n i) i c := fun i c hi ha => by rw [A3 i (.inr hi)]; exact ha
  have stays : ∀ c, Pp c ∨ Pt c → w'.heap[c]? = w.heap[c]? := fun c hc => st.kept c (iv.lt c hc) fun i hi ha => by
    have := (Atc.lt (iv.hb i (hF j hj i (.inr hi))) (atc i c hi ha)).2
    rcases hc with hc | hc
    · exact this.1 hc
    · exact this.2 hc
  have mono : ∀ {g : GV} {v : Value}, VR w ρ Pp g Pt v → VR w' ρ' Pp' g Pt v := fun {g v} hv => VR_mono st.keep g Pt Pt v (fun _ h => .inl h) stays hv
  have hm1 : (hs (j + 1)).length ≤ (hs n).length := hs_mono hfr hst (by omega) (Nat.le_refl _)
  have hm0 : (hs 0).length ≤ (hs j).length := hs_mono hfr hst (by omega) (by omega)
  -- contents after
  have contT : ∀ i, touches (recAt hs lgs j) i = true → cont hs lgs (setAt S j) n i = (hs (j + 1))[i]? := by
    intro i ht
    rw [cont_above (m := j + 1) (by omega) (fun k h1 h2 h3 => ?_)]
    · unfold cont
      rw [if_pos ⟨by simp [setAt], ht⟩]
    · have hkj : k ≠ j := by omega
      simp only [setAt, hkj, if_false]
      cases hSk : S k with
      | false => rfl
      | true =>
        have ap := apUp k (by omega) h2 hSk
        rcases touches_iff.1 ht with h4 | ⟨h4, h5⟩
        · have := (ap.ww i h4).1
          rw [h3] at this; cases this
        · rcases touches_iff.1 h3 with h6 | ⟨h6, h7⟩
          · have := (ap.ww' i h6).1
            rw [ht] at this; cases this
          · have := hs_mono hfr hst (j := j + 1) (k := k) (by omega) (by omega)
            omega
  have contN : ∀ i, touches (recAt hs lgs j) i = false → cont hs lgs (setAt S j) n i = cont hs lgs S n i := by
    intro i ht
    refine cont_congr fun k hk hkt => ?_
    have hkj : k ≠ j := by rintro rfl; rw [ht] at hkt; cases hkt
    simp [setAt, hkj]
  have notT : ∀ i, touches (recAt hs lgs j) i = false → i ∉ (lgs j).w ∧ (i < (hs j).length ∨ (hs (j + 1)).length ≤ i) := by
    intro i ht
    have h' : ¬ (i ∈ (lgs j).w ∨ ((hs j).length ≤ i ∧ i < (hs (j + 1)).length)) := by rw [← touches_iff, ht]; simp
    refine ⟨fun e => h' (.inl e), ?_⟩
    rcases Nat.lt_or_ge i (hs j).length with h1 | h1
    · exact .inl h1
    · rcases Nat.lt_or_ge i (hs (j + 1)).length with h2 | h2
      · exact absurd (.inr ⟨h1, h2⟩) h'
      · exact .inr h2
  have rhoN : ∀ i m, touches (recAt hs lgs j) i = false → ρ' i m = ρ i m := fun i m ht => by
    obtain ⟨h1, h2⟩ := notT i ht
    exact st.rhoold i m (h2.imp (fun h => ⟨h, h1⟩) id)
  have key : ∀ i c, Atc ρ' (cont hs lgs (setAt S j) n i) i c → Atc ρ (cont hs lgs S n i) i c ∨ (w.heap.size ≤ c ∧ c < w'.heap.size ∧ touches (recAt hs lgs j) i = true) := by
    intro i c ha
    cases ht : touches (recAt hs lgs j) i with
    | true =>
      rw [contT i ht] at ha
      have hti := touches_iff.1 ht
      rcases st.fresh i c hti ha with h | h
      · exact .inr ⟨h.1, h.2, rfl⟩
      · have hb := h.bound
        rcases hti with h4 | ⟨h4, _⟩
        · exact .inl (atc i c h4 h)
        · omega
    | false =>
      rw [contN i ht] at ha
      obtain ⟨cs, loc, h1, h2, h3⟩ := ha
      exact .inl ⟨cs, loc, h1, by rw [← rhoN i _ ht]; exact h2, h3⟩
  refine ⟨by rw [put_size]; exact iv.size, by rw [put_defers]; exact iv.defers, fun t => ?_, fun c hc => ?_, iv.gl.mono st.keep st.os st.tape st.output st.size fun c hc => stays c (.inl hc), fun i hFi => ?_, fun i k c hi hk hne ha hb => ?_, fun k i m hk hSk h1 h2 => ?_, st.os.trans iv.os, st.tape.trans iv.tape, st.output.trans iv.output,
    Nat.le_trans iv.wsize st.size, iv.keep.trans st.keep, fun c hc hno => ?_, fun c hc => ?_, fun i m hi => ?_, fun i c hi ha => ?_⟩
  · rw [getD_put (by rw [iv.size]; exact hd)]
    by_cases hdt : o.dst = some t
    · rw [if_pos hdt]
      have : cur ops σs vs (setAt S j) n t = vs j := by
        rw [cur_above (m := j + 1) (by omega) (fun k h1 h2 h3 => ?_)]
        · unfold cur
          rw [if_pos ⟨by simp [setAt], by rw [hdj]; exact hdt⟩]
        · have hkj : k ≠ j := by omega
          simp only [setAt, hkj, if_false]
          cases hSk : S k with
          | false => rfl
          | true =>
            cases hok : ops[k]? with
            | none => simp [dstAt, hok] at h3
            | some ok =>
              simp only [dstAt, hok, Option.bind_some] at h3
              have := (slots_pair ck.slots (by omega : j < k) ho hok (bit k h2 hSk)).2 t h3
              exact absurd (by simp [slotsOf, hdt]) this
      rw [this]
      exact hu
    · rw [if_neg hdt]
      have : cur ops σs vs (setAt S j) n t = cur ops σs vs S n t := cur_congr fun k hk hkt => by
        have hkj : k ≠ j := by rintro rfl; rw [hdj] at hkt; exact hdt hkt
        simp [setAt, hkj]
      rw [this]
      exact mono (iv.val t)
  · have := st.size
    rcases hc with hc | hc
    · rcases st.ppnew c hc with h | h
      · have := iv.lt c (.inl h); omega
      · exact h.2
    · have := iv.lt c (.inr hc); omega
  · cases ht : touches (recAt hs lgs j) i with
    | true =>
      rw [contT i ht]
      exact st.blocks i (touches_iff.1 ht)
    | false =>
      rw [contN i ht]
      intro cs hcs
      obtain ⟨⟨loc, h1, ⟨rc, ty, lo, hi', h4, h5, h6, h7⟩, h8, h9⟩, h10⟩ := iv.hb i hFi cs hcs
      have hc : loc.1 < w.heap.size := (Array.getElem?_eq_some_iff.1 h4).1
      refine ⟨⟨loc, by rw [rhoN i _ ht]; exact h1, ⟨rc, ty, lo, hi', ?_, h5, h6, fun q g hg => ?_⟩, fun hp => ?_, h9⟩, fun m hm => by rw [rhoN i _ ht]; exact h10 m hm⟩
      · rw [st.kept loc.1 hc fun k hk ha => ?_]
        · exact h4
        · have hki : i ≠ k := by
            rintro rfl
            exact (notT i ht).1 hk
          exact iv.inj i k loc.1 hFi (hF j hj k (.inr hk)) hki ⟨cs, loc, hcs, h1, rfl⟩ (atc k _ hk ha)
      · obtain ⟨u, h11, h12⟩ := h7 q g hg
        exact ⟨u, h11, mono h12⟩
      · rcases st.ppnew _ hp with h | h
        · exact h8 h
        · omega
  · rcases key i c ha with h1 | ⟨h1, _, h1'⟩
    · rcases key k c hb with h2 | ⟨h2, _, _⟩
      · exact iv.inj i k c hi hk hne h1 h2
      · have := (Atc.lt (iv.hb i hi) h1).1
        omega
    · rcases key k c hb with h2 | ⟨h2, _, h2'⟩
      · have := (Atc.lt (iv.hb k hk) h2).1
        omega
      · rw [contT i h1'] at ha
        rw [contT k h2'] at hb
        have := st.inj i k c (touches_iff.1 h1').symm (touches_iff.1 h2').symm hne ha hb
        omega
  · have hkj : k ≠ j := by rintro rfl; simp [setAt] at hSk
    have hSk' : S k = false := by simpa [setAt, hkj] using hSk
    have hold := iv.nw k i m hk hSk' h1 h2
    rw [← hold]
    refine st.rhoold i m ?_
    rcases Nat.lt_or_ge k j with hlt | hge
    · have h3 := hs_mono hfr hst (j := k + 1) (k := j) (by omega) (by omega)
      refine .inl ⟨by omega, fun hw => ?_⟩
      have := ((apDn k hlt hSk').ww' i hw).1
      rw [touches_iff.2 (.inr ⟨h1, h2⟩)] at this
      cases this
    · have h3 := hs_mono hfr hst (j := j + 1) (k := k) (by omega) (by omega)
      exact .inr (by omega)
  · rw [st.kept c (Nat.lt_of_lt_of_le hc iv.wsize) fun i hi ha => ?_]
    · exact iv.kept c hc hno
    · rcases iv.fresh i c (.inl (hL j hj i hi)) (atc i c hi ha) with h | h
      · omega
      · exact hno i (hL j hj i hi) h
  · have := st.size
    have := iv.wsize
    rcases st.ppnew c hc with h | h
    · rcases iv.ppnew c h with h | h
      · exact .inl h
      · exact .inr ⟨h.1, by omega⟩
    · exact .inr ⟨by omega, h.2⟩
  · rw [← iv.rhoold i m hi]
    refine st.rhoold i m ?_
    rcases hi with ⟨h1, h2⟩ | h1
    · exact .inl ⟨by omega, fun h => h2 (hL j hj i h)⟩
    · exact .inr (by omega)
  · have := st.size
    have := iv.wsize
    rcases key i c ha with h | ⟨h1, h2, _⟩
    · rcases iv.fresh i c hi h with h | h
      · exact .inl ⟨h.1, by omega⟩
      · exact .inr h
    · exact .inl ⟨by omega, h2⟩

theorem inv_step (hN : NameOk P) (hC : CSound P call) (hX : XSound P C) (hfr : CFrame call) (hn : n = ops.size) (hst : ∀ j, j < n → StepAt P C call nt ops σs hs vs lgs j) (ck : Chk ops hs lgs n) (hF : ∀ j, j < n → ∀ i, i ∈ (lgs j).r ∨ i ∈ (lgs j).w → F i) (hL : ∀ j, j < n → ∀ i, i ∈ (lgs j).w → i ∈ L.w)
    {S : Nat → Bool} {a : Act} {w : World} {ρ : Map} {Pp : Nat → Prop} (iv : Inv ops σs hs vs lgs n nt F L Pt w0 ρ0 P0 S a w ρ Pp) (hcl : ∀ j, j < n → S j = true → ∀ k, ((masks ops).getD j 0).testBit k = true → S k = true)
    {j : Nat} (hj : j < n) (hS : S j = false) (hanc : ∀ k, ((masks ops).getD j 0).testBit k = true → S k = true) {K : Act → World → Prop} {Q : Exit → Act → World → Prop}
    (hK : ∀ a' w' ρ' Pp', Inv ops σs hs vs lgs n nt F L Pt w0 ρ0 P0 (setAt S j) a' w' ρ' Pp' → K a' w') : wpOp P ops Q j K a w := by
  obtain ⟨o, ho, hd, hσ, hop⟩ := (hst j hj).ex
  have bit : ∀ k, k < n → S k = true → ((masks ops).getD k 0).testBit j = false := by
    intro k hk hSk
    cases hb : ((masks ops).getD k 0).testBit j with
    | false => rfl
    | true => rw [hcl k hk hSk j hb] at hS; cases hS
  have bit' : ∀ k, S k = false → ((masks ops).getD j 0).testBit k = false := by
    intro k hk
    cases hb : ((masks ops).getD j 0).testBit k with
    | false => rfl
    | true => rw [hanc k hb] at hk; cases hk
  have A1 : ∀ t, t ∈ slotsOf ops o → cur ops σs vs S n t = σs j t := by
    intro t ht
    rw [cur_above (m := j) (by omega) (fun k h1 h2 h3 => ?_)]
    · refine cur_below (fun k hk => hst k (by omega)) fun k hk hkt => ?_
      cases hSk : S k with
      | true => rfl
      | false =>
        cases hok : ops[k]? with
        | none => simp [dstAt, hok] at hkt
        | some ok =>
          simp only [dstAt, hok, Option.bind_some] at hkt
          exact absurd ht ((slots_pair ck.slots hk hok ho (bit' k hSk)).1 t hkt)
    · by_cases hkj : k = j
      · subst hkj; exact hS
      · cases hSk : S k with
        | false => rfl
        | true =>
          cases hok : ops[k]? with
          | none => simp [dstAt, hok] at h3
          | some ok =>
            simp only [dstAt, hok, Option.bind_some] at h3
            exact absurd ht ((slots_pair ck.slots (by omega : j < k) ho hok (bit k h2 hSk)).2 t h3)
  have A3 : ∀ i, i ∈ (lgs j).r ∨ i ∈ (lgs j).w → cont hs lgs S n i = (hs j)[i]? := by
    intro i hi
    rw [cont_above (m := j) (by omega) (fun k h1 h2 h3 => ?_)]
    · refine cont_below hfr (fun k hk => hst k (by omega)) fun k hk hkt => ?_
      cases hSk : S k with
      | true => rfl
      | false =>
        have ap := ck.recs k j hk hj (bit' k hSk)
        rcases hi with hi | hi
        · have := ap.r i hi
          rw [hkt] at this; cases this
        · have := (ap.ww' i hi).1
          rw [hkt] at this; cases this
    · by_cases hkj : k = j
      · subst hkj; exact hS
      · cases hSk : S k with
        | false => rfl
        | true =>
          have ap := ck.recs j k (by omega) h2 (bit k h2 hSk)
          rcases hi with hi | hi
          · have := ap.r' i hi
            rw [h3] at this; cases this
          · have := (ap.ww i hi).1
            rw [h3] at this; cases this
  have A1v : ∀ t, t ∈ slotsOf ops o → VR w ρ Pp (σs j t) Pt (a.tmps.getD t undef) := fun t ht => by
    rw [← A1 t ht]
    exact iv.val t
  unfold wpOp
  simp only [ho]
  have hw : Region.wanted o (yielded ops a.tmps) = Region.wanted o (gyield ops (σs j)) := wanted_eq fun q want d hg hq => A1v d (by
    simp only [slotsOf, hg, hq]
    simp)
  rw [hw]
  rcases hop with ⟨h1, h2⟩ | ⟨h1, h2, h3, h4⟩
  · rw [if_pos h1]
    left
    have p : Pre Pt w ρ Pp (hs j) (fun i => i ∈ (lgs j).r ∨ i ∈ (lgs j).w) (hs (j + 1)).length := by
      refine ⟨iv.lt, fun i hi => ?_, fun i k c hi hk hne ha hb => ?_, fun i m q1 q2 => iv.nw j i m hj hS q1 q2, iv.gl⟩
      · have := iv.hb i (hF j hj i hi)
        rw [A3 i hi] at this
        exact this
      · have := iv.inj i k c (hF j hj i hi) (hF j hj k hk) hne
        rw [A3 i hi, A3 k hk] at this
        exact this ha hb
    refine op_sound hN hC hX h2 (fun x hx => eval_EV iv.gl fun t ht => A1v t ?_) p (fun i hi => hi) _ _ fun u w' ⟨ρ', Pp', hv, st⟩ => ?_
    · subst ht
      simp only [slotsOf, List.mem_append, List.mem_filterMap]
      exact .inl (.inr ⟨_, hx, rfl⟩)
    · exact hK _ _ ρ' Pp' (inv_put hfr hn hst ck hF hL iv hcl hj hS hanc ho hd A3 hv st)
  · rw [if_neg (by rw [h1]; simp)]
    refine hK _ _ ρ Pp (inv_put hfr hn hst ck hF hL iv hcl hj hS hanc ho hd A3 (u := undef) (by rw [h2]; simp [VR, VRi]) ?_)
    rw [h3, h4]
    exact Step.none ..
end

end Go.Proofs.YtklhdbkaejbajaaDoor.G

namespace Go.Proofs.YtklhdbkaejbajaaDoor.G
open Go.RowKit
set_option linter.unusedVariables false
set_option linter.unusedSimpArgs false

section
variable {P : Program} {C : Cfg} {call : GCall} {nt n : Nat} {ops : Array Oper} {σs : Nat → GS} {hs : Nat → Heap} {vs : Nat → GV} {lgs : Nat → Lg} {F : Nat → Prop} {L : Lg}
  {Pt : Nat → Prop} {w0 : World} {ρ0 : Map} {P0 : Nat → Prop}

theorem mem_ready {listed : Array Bool} {i : Nat} : i ∈ Region.ready .any ops listed ↔ i < ops.size ∧ listed.getD i true = false ∧ ∃ o, ops[i]? = some o ∧ ∀ e, e ∈ o.after.toList → Region.binds .any e = true → listed.getD e.on false = true := by
  unfold Region.ready
  rw [List.mem_filter, List.mem_range]
  constructor
  · rintro ⟨h1, h2⟩
    simp only [Bool.and_eq_true, Bool.not_eq_true'] at h2
    obtain ⟨h2, h3⟩ := h2
    cases ho : ops[i]? with
    | none => rw [ho] at h3; cases h3
    | some o =>
      rw [ho] at h3
      simp only [Option.map_some, Option.getD_some] at h3
      refine ⟨h1, h2, o, rfl, fun e he hb => ?_⟩
      have h4 := (Array.all_eq_true_iff_forall_mem.1 h3) e (by simpa using he)
      simpa [hb] using h4
  · rintro ⟨h1, h2, o, ho, h3⟩
    refine ⟨h1, ?_⟩
    rw [ho, h2]
    simp only [Option.map_some, Option.getD_some, Bool.not_false, Bool.true_and]
    refine Array.all_eq_true_iff_forall_mem.2 fun e he => ?_
    cases hb : Region.binds .any e with
    | false => simp
    | true => simp [h3 e (by simpa using he) hb]

def listedOf (listed : Array Bool) : Nat → Bool := fun k => listed.getD k false

theorem any_sound (hN : NameOk P) (hC : CSound P call) (hX : XSound P C) (hfr : CFrame call) (hn : n = ops.size) (hst : ∀ j, j < n → StepAt P C call nt ops σs hs vs lgs j) (ck : Chk ops hs lgs n) (hF : ∀ j, j < n → ∀ i, i ∈ (lgs j).r ∨ i ∈ (lgs j).w → F i) (hL : ∀ j, j < n → ∀ i, i ∈ (lgs j).w → i ∈ L.w)
    {Q : Exit → Act → World → Prop} (hQ : ∀ S a w ρ Pp, (∀ k, k < n → S k = true) → Inv ops σs hs vs lgs n nt F L Pt w0 ρ0 P0 S a w ρ Pp → Q .normal a w) :
    ∀ (fuel : Nat) (listed : Array Bool) (a : Act) (w : World) (ρ : Map) (Pp : Nat → Prop), listed.size = n → unl (listedOf listed) n ≤ fuel → (∀ j, j < n → listedOf listed j = true → ∀ k, ((masks ops).getD j 0).testBit k = true → listedOf listed k = true) →
      Inv ops σs hs vs lgs n nt F L Pt w0 ρ0 P0 (listedOf listed) a w ρ Pp → wpAny P .any ops Q fuel listed a w
  | 0, listed, a, w, ρ, Pp, hsz, hu, hcl, iv => by
    have hall := unl_zero (S := listedOf listed) (m := n) (by omega)
    refine ⟨List.eq_nil_iff_forall_not_mem.2 fun i hi => ?_, hQ _ a w ρ Pp hall iv⟩
    obtain ⟨h1, h2, _⟩ := mem_ready.1 hi
    have := hall i (by omega)
    simp only [listedOf] at this
    have hlt : i < listed.size := by omega
    simp [hlt] at h2 this
    rw [this] at h2
    cases h2
  | fuel + 1, listed, a, w, ρ, Pp, hsz, hu, hcl, iv => by
    refine ⟨fun hr => hQ _ a w ρ Pp (fun k => ?_) iv, fun i hi => ?_⟩
    · induction k using Nat.strongRecOn with
      | _ k ih =>
        intro hk
        cases hl : listedOf listed k with
        | true => rfl
        | false =>
          exfalso
          obtain ⟨o, ho⟩ : ∃ o, ops[k]? = some o := ⟨ops[k]'(by omega), by simp⟩
          have : k ∈ Region.ready .any ops listed := by
            refine mem_ready.2 ⟨by omega, ?_, o, ho, fun e he hb => ?_⟩
            · simp only [listedOf] at hl
              have hlt : k < listed.size := by omega
              simp [hlt] at hl ⊢
              exact hl
            · have he' := List.all_eq_true.1 ck.edges k (by simp; omega)
              simp only [ho] at he'
              have he2 := List.all_eq_true.1 he' e he
              simp only [hb, Bool.not_true, Bool.false_or, Nat.blt_eq] at he2
              exact ih e.on he2 (by omega)
          rw [hr] at this
          cases this
    · obtain ⟨h1, h2, o, ho, h3⟩ := mem_ready.1 hi
      have hi' : i < n := by omega
      have hlt : i < listed.size := by omega
      have hS : listedOf listed i = false := by
        simp only [listedOf]
        simp [hlt] at h2 ⊢
        exact h2
      have hanc : ∀ k, ((masks ops).getD i 0).testBit k = true → listedOf listed k = true := by
        intro k hk
        obtain ⟨e, q1, q2, q3, q4⟩ := masks_spec ops ck.edges i o ho k hk
        have q5 := h3 e q1 q2
        rcases q4 with rfl | q4
        · exact q5
        · exact hcl e.on (by omega) q5 k q4
      have hset : listedOf (listed.setIfInBounds i true) = setAt (listedOf listed) i := by
        funext k
        simp only [listedOf, setAt]
        by_cases hk : k = i
        · subst hk
          simp [hlt]
        · rw [if_neg hk]
          simp [Array.getElem?_setIfInBounds, Ne.symm hk]
      refine inv_step hN hC hX hfr hn hst ck hF hL iv hcl hi' hS hanc fun a' w' ρ' Pp' iv' => ?_
      refine any_sound hN hC hX hfr hn hst ck hF hL hQ fuel _ a' w' ρ' Pp' (by simp [hsz]) ?_ ?_ (by rw [hset]; exact iv')
      · rw [hset]
        have := unl_set (S := listedOf listed) (S' := setAt (listedOf listed) i) (j := i) hS (by simp [setAt]) (fun k hk => by simp [setAt, hk]) (m := n) hi'
        omega
      · rw [hset]
        intro j hj hSj k hk
        by_cases hji : j = i
        · subst hji
          by_cases hki : k = j
          · simp [setAt, hki]
          · simp only [setAt, hki, if_false]
            exact hanc k hk
        · have hSj' : listedOf listed j = true := by simpa [setAt, hji] using hSj
          by_cases hki : k = i
          · simp [setAt, hki]
          · simp only [setAt, hki, if_false]
            exact hcl j hj hSj' k hk

theorem logOf_w {l : List Rec} {i : Nat} : i ∈ (logOf l).w ↔ ∃ r, r ∈ l ∧ i ∈ r.lg.w := by
  induction l with
  | nil => simp [logOf, Lg.nil]
  | cons a l ih => simp [logOf, Lg.add, ih]
theorem logOf_r {l : List Rec} {i : Nat} : i ∈ (logOf l).r ↔ ∃ r, r ∈ l ∧ i ∈ r.lg.r := by
  induction l with
  | nil => simp [logOf, Lg.nil]
  | cons a l ih => simp [logOf, Lg.add, ih]

variable {σ σ' : GS} {h h' : Heap} {lg : Lg} {a : Act} {w : World} {ρ : Map} {Pp : Nat → Prop} {N : Nat}

theorem gregion_len (hfr : CFrame call) {draw : Bool} (e : gregion P C call nt ops draw σ h = some (σ', h', lg)) : h.length ≤ h'.length := by
  unfold gregion at e
  simp only [Option.bind_eq_bind, Option.bind_eq_some_iff] at e
  obtain ⟨⟨σ1, h1, l⟩, hr, e⟩ := e
  have := ops_seq.gops_len hfr _ _ _ _ _ _ hr
  split at e
  · split at e
    · simp only [Option.some.injEq, Prod.mk.injEq] at e
      obtain ⟨rfl, rfl, rfl⟩ := e
      exact this
    · cases e
  · simp only [Option.some.injEq, Prod.mk.injEq] at e
    obtain ⟨rfl, rfl, rfl⟩ := e
    exact this

theorem region_sound (hM : P.follows .mixedOrders = true) (hN : NameOk P) (hC : CSound P call) (hX : XSound P C) (hfr : CFrame call) {id : Nat} {draw : Bool} {Q : Exit → Act → World → Prop} (e : gregion P C call nt ops draw σ h = some (σ', h', lg))
    (tr : TR w ρ Pp Pt nt σ a) (p : Pre Pt w ρ Pp h F N) (hNle : h'.length ≤ N) (hF : ∀ i, i ∈ lg.r ∨ i ∈ lg.w → F i) (hnew : ∀ i, h.length ≤ i → F i)
    (hQ : ∀ a' w' ρ' Pp', TR w' ρ' Pp' Pt nt σ' a' → Step Pt w ρ Pp h lg w' ρ' Pp' h' → Q .normal a' w') : (Code.region id ops draw).wp P Q a w := by
  have hlen := gregion_len hfr e
  unfold gregion at e
  simp only [Option.bind_eq_bind, Option.bind_eq_some_iff] at e
  obtain ⟨⟨σ1, h1, l⟩, hr, e⟩ := e
  dsimp only at e
  cases draw with
  | false =>
    simp only [Bool.false_eq_true, if_false, Option.some.injEq, Prod.mk.injEq] at e
    obtain ⟨rfl, rfl, rfl⟩ := e
    exact wp_region (ops_seq hN hC hX _ σ h a w ρ Pp σ1 h1 l hr tr p hNle hF hlen hfr hQ)
  | true =>
    simp only [if_true] at e
    split at e
    · rename_i hck
      obtain ⟨c1, c2, c3⟩ := hck
      simp only [Option.some.injEq, Prod.mk.injEq] at e
      obtain ⟨rfl, rfl, rfl⟩ := e
      rw [List.range_eq_range'] at hr
      obtain ⟨σs, hs, vs, lgs, e1, e2, e3, e4, e5, e6⟩ := gops_run _ _ _ _ _ _ _ hr
      rw [Nat.zero_add] at e3 e4
      have hst : ∀ j, j < ops.size → StepAt P C call nt ops σs hs vs lgs j := fun j hj => e5 j (by omega) (by omega)
      have hget : ∀ j, j < ops.size → l[j]? = some (recAt hs lgs j) := by
        intro j hj
        rw [e6, List.getElem?_map, List.getElem?_range' (by omega)]
        simp
      have hmem : ∀ j, j < ops.size → recAt hs lgs j ∈ l := fun j hj => List.mem_of_getElem? (hget j hj)
      have ck : Chk ops hs lgs ops.size := ⟨c1, c2, fun i j hij hj hb => apart_of (recs_pair c3 hij (hget i (by omega)) (hget j hj) (by simpa [recAt] using hb))⟩
      have hF' : ∀ j, j < ops.size → ∀ i, i ∈ (lgs j).r ∨ i ∈ (lgs j).w → F i := fun j hj i hi => hF i (hi.imp (fun h => logOf_r.2 ⟨_, hmem j hj, h⟩) (fun h => logOf_w.2 ⟨_, hmem j hj, h⟩))
      have hL : ∀ j, j < ops.size → ∀ i, i ∈ (lgs j).w → i ∈ (logOf l).w := fun j hj i hi => logOf_w.2 ⟨_, hmem j hj, hi⟩
      have hmono : ∀ {j k : Nat}, j ≤ k → k ≤ ops.size → (hs j).length ≤ (hs k).length := fun h1 h2 => hs_mono hfr hst h1 h2
      refine wp_region_any hM ?_
      have hcur0 : ∀ m t, m ≤ ops.size → cur ops σs vs (fun _ => false) m t = σs 0 t := fun m t _ => cur_above (m := 0) (by omega) (fun _ _ _ _ => rfl)
      have hcont0 : ∀ m i, m ≤ ops.size → cont hs lgs (fun _ => false) m i = (hs 0)[i]? := fun m i _ => cont_above (m := 0) (by omega) (fun _ _ _ _ => rfl)
      have hl0 : listedOf (Array.replicate ops.size false) = fun _ => false := by
        funext k
        simp only [listedOf]
        by_cases hk : k < ops.size
        · simp [hk]
        · simp [hk]
      refine any_sound (σs := σs) (hs := hs) (vs := vs) (lgs := lgs) (F := F) (L := logOf l) (Pt := Pt) (w0 := w) (ρ0 := ρ) (P0 := Pp) (n := ops.size) (nt := nt) hN hC hX hfr rfl hst ck hF' hL (fun S a' w' ρ' Pp' hall iv => ?_) ops.size _ a _ ρ Pp (by simp) ?_ ?_ ?_
      · -- the end
        have hcn : ∀ t, cur ops σs vs S ops.size t = σs ops.size t := fun t => cur_below hst (fun k hk _ => hall k hk)
        have hcc : ∀ i, cont hs lgs S ops.size i = (hs ops.size)[i]? := fun i => cont_below hfr hst (fun k hk _ => hall k hk)
        refine hQ a' w' ρ' Pp' ⟨iv.size, fun t => ?_, iv.defers⟩ ?_
        · rw [← e3, ← hcn t]
          exact iv.val t
        · rw [← e4, ← e2]
          have hFb : ∀ i, (i ∈ (logOf l).w ∨ ((hs 0).length ≤ i ∧ i < (hs ops.size).length)) → F i := fun i hi => hi.elim (fun h => hF i (.inr h)) (fun h' => hnew i (by rw [← e2]; exact h'.1))
          refine ⟨iv.os, iv.tape, iv.output, iv.wsize, iv.keep, iv.kept, iv.ppnew, iv.rhoold, hmono (by omega) (Nat.le_refl _), fun i hi hw => ?_, fun i hi => ?_, fun i c hi ha => ?_, fun i j c hi hj hne ha hb => ?_⟩
          · have key : ∀ m, m ≤ ops.size → (hs m)[i]? = (hs 0)[i]? := by
              intro m
              induction m with
              | zero => intro _; rfl
              | succ m ih =>
                intro hm
                have hf := hs_frame hfr (hst m (by omega))
                have := hmono (j := 0) (k := m) (by omega) (by omega)
                rw [hf.keep i (by omega) (fun h => hw (hL m (by omega) i h)), ih (by omega)]
            exact key _ (Nat.le_refl _)
          · have := iv.hb i (hFb i hi)
            rw [hcc i] at this
            exact this
          · exact iv.fresh i c hi (by rw [hcc i]; exact ha)
          · have := iv.inj i j c (hFb i hi.symm) (hFb j hj.symm) hne (by rw [hcc i]; exact ha)
            rw [hcc j] at this
            exact absurd hb this
      · rw [hl0]
        have : ∀ m, unl (fun _ => false) m = m := by
          intro m
          induction m with
          | zero => rfl
          | succ m ih => unfold unl; rw [ih]; simp
        rw [this]
        exact Nat.le_refl _
      · rw [hl0]
        intro j _ h
        cases h
      · rw [hl0]
        have st := Step.drew Pt w ρ Pp h [] (w.drawn + 1)
        have mono : ∀ {g : GV} {v : Value}, VR w ρ Pp g Pt v → VR { w with drawn := w.drawn + 1 } ρ Pp g Pt v := fun {g v} hv => VR_mono st.keep g Pt Pt v (fun _ h => .inl h) (fun _ _ => rfl) hv
        have p1 := st.after p (fun i hi => by simp at hi)
        refine ⟨tr.size, tr.defers, fun t => ?_, p1.lt, p1.gl, fun i hi => ?_, fun i j c hi hj hne ha hb => ?_, fun k i m hk _ q1 q2 => ?_, rfl, rfl, rfl, Nat.le_refl _, st.keep, fun _ _ _ => rfl, fun _ h => .inl h, fun _ _ _ => rfl, fun i c hi ha => ?_⟩
        · rw [hcur0 _ t (Nat.le_refl _), e1]
          exact mono (tr.val t)
        · rw [hcont0 _ i (Nat.le_refl _), e2]
          exact p1.hb i hi
        · rw [hcont0 _ _ (Nat.le_refl _), e2] at ha hb
          exact p1.inj i j c hi hj hne ha hb
        · have h3 := hmono (j := 0) (k := k) (by omega) (by omega)
          have h4 := hmono (j := k + 1) (k := ops.size) (by omega) (Nat.le_refl _)
          refine p.nw i m ?_ ?_
          · rw [← e2]; omega
          · rw [e4] at h4; omega
        · rw [hcont0 _ _ (Nat.le_refl _)] at ha
          exact .inr ha
    · cases e
end

end Go.Proofs.YtklhdbkaejbajaaDoor.G

namespace Go.Proofs.YtklhdbkaejbajaaDoor.G
open Go.RowKit
set_option linter.unusedVariables false
set_option linter.unusedSimpArgs false

section
variable {P : Program} {C : Cfg} {call : GCall} {nt k : Nat} {ops : Array Oper}

theorem gops_frame (hfr : CFrame call) : ∀ (l : List Nat) (σ : GS) (h : Heap) (σ' : GS) (h' : Heap) (recs : List Rec), gops P C call nt ops l σ h = some (σ', h', recs) → FR h (logOf recs) h'
  | [], σ, h, σ', h', recs, e => by
    simp only [gops, Option.some.injEq, Prod.mk.injEq] at e
    obtain ⟨rfl, rfl, rfl⟩ := e
    exact FR.same _ _
  | j :: rest, σ, h, σ', h', recs, e => by
    unfold gops at e
    cases hj : ops[j]? with
    | none => rw [hj] at e; cases e
    | some o =>
      rw [hj] at e
      simp only at e
      split at e
      · split at e
        · simp only [Option.bind_eq_bind, Option.bind_eq_some_iff, Option.some.injEq, Prod.mk.injEq] at e
          obtain ⟨⟨v, h1, lg⟩, he, ⟨σ2, h2, recs2⟩, hr, rfl, rfl, rfl⟩ := e
          exact (gop_frame hfr he).trans (gops_frame hfr rest _ _ _ _ _ hr)
        · simp only [Option.bind_eq_bind, Option.bind_eq_some_iff, Option.some.injEq, Prod.mk.injEq] at e
          obtain ⟨⟨σ2, h2, recs2⟩, hr, rfl, rfl, rfl⟩ := e
          exact (FR.same h .nil).trans (gops_frame hfr rest _ _ _ _ _ hr)
      · cases e

theorem gregion_frame (hfr : CFrame call) {draw : Bool} {σ σ' : GS} {h h' : Heap} {lg : Lg} (e : gregion P C call nt ops draw σ h = some (σ', h', lg)) : FR h lg h' := by
  unfold gregion at e
  simp only [Option.bind_eq_bind, Option.bind_eq_some_iff] at e
  obtain ⟨⟨σ1, h1, l⟩, hr, e⟩ := e
  have := gops_frame hfr _ _ _ _ _ _ hr
  split at e
  · split at e
    · simp only [Option.some.injEq, Prod.mk.injEq] at e
      obtain ⟨rfl, rfl, rfl⟩ := e
      exact this
    · cases e
  · simp only [Option.some.injEq, Prod.mk.injEq] at e
    obtain ⟨rfl, rfl, rfl⟩ := e
    exact this

theorem gloop_frame {body : GS → Heap → GR} (hb : ∀ σ h x σ' h' lg, body σ h = some (x, σ', h', lg) → FR h lg h') : ∀ (k : Nat) (σ : GS) (h : Heap) (x : GX) (σ' : GS) (h' : Heap) (lg : Lg), gloop body k σ h = some (x, σ', h', lg) → FR h lg h'
  | 0, σ, h, x, σ', h', lg, e => by cases e
  | k + 1, σ, h, x, σ', h', lg, e => by
    unfold gloop at e
    split at e
    · rename_i σ1 h1 l1 h0
      obtain ⟨⟨x2, σ2, h2, l2⟩, hr, e⟩ := Option.map_eq_some_iff.1 e
      simp only [Prod.mk.injEq] at e
      obtain ⟨rfl, rfl, rfl, rfl⟩ := e
      exact (hb _ _ _ _ _ _ h0).trans (gloop_frame hb k _ _ _ _ _ _ hr)
    · exact hb _ _ _ _ _ _ e

theorem gcode_frame (hfr : CFrame call) : ∀ (c : Code) (σ : GS) (h : Heap) (x : GX) (σ' : GS) (h' : Heap) (lg : Lg), gcode P C call k nt c σ h = some (x, σ', h', lg) → FR h lg h'
  | .skip, σ, h, x, σ', h', lg, e => by
    simp only [gcode, Option.some.injEq, Prod.mk.injEq] at e
    obtain ⟨rfl, rfl, rfl, rfl⟩ := e
    exact FR.same _ _
  | .region id ops draw, σ, h, x, σ', h', lg, e => by
    simp only [gcode] at e
    obtain ⟨⟨σ2, h2, l2⟩, hr, e⟩ := Option.map_eq_some_iff.1 e
    simp only [Prod.mk.injEq] at e
    obtain ⟨rfl, rfl, rfl, rfl⟩ := e
    exact gregion_frame hfr hr
  | .seq a b, σ, h, x, σ', h', lg, e => by
    simp only [gcode] at e
    split at e
    · rename_i σ1 h1 l1 h0
      obtain ⟨⟨x2, σ2, h2, l2⟩, hr, e⟩ := Option.map_eq_some_iff.1 e
      simp only [Prod.mk.injEq] at e
      obtain ⟨rfl, rfl, rfl, rfl⟩ := e
      exact (gcode_frame hfr a _ _ _ _ _ _ h0).trans (gcode_frame hfr b _ _ _ _ _ _ hr)
    · exact gcode_frame hfr a _ _ _ _ _ _ e
  | .cond c a b, σ, h, x, σ', h', lg, e => by
    simp only [gcode] at e
    split at e
    · rename_i t ht
      cases t with
      | true => exact gcode_frame hfr a _ _ _ _ _ _ e
      | false => exact gcode_frame hfr b _ _ _ _ _ _ e
    · cases e
  | .block id c, σ, h, x, σ', h', lg, e => by
    simp only [gcode] at e
    split at e
    · rename_i id' σ1 h1 l1 h0
      split at e
      · simp only [Option.some.injEq, Prod.mk.injEq] at e
        obtain ⟨rfl, rfl, rfl, rfl⟩ := e
        exact gcode_frame hfr c _ _ _ _ _ _ h0
      · simp only [Option.some.injEq, Prod.mk.injEq] at e
        obtain ⟨rfl, rfl, rfl, rfl⟩ := e
        exact gcode_frame hfr c _ _ _ _ _ _ h0
    · exact gcode_frame hfr c _ _ _ _ _ _ e
  | .loop c, σ, h, x, σ', h', lg, e => by
    simp only [gcode] at e
    exact gloop_frame (fun σ h x σ' h' lg e => gcode_frame hfr c σ h x σ' h' lg e) _ _ _ _ _ _ _ e
  | .exit id, σ, h, x, σ', h', lg, e => by
    simp only [gcode, Option.some.injEq, Prod.mk.injEq] at e
    obtain ⟨rfl, rfl, rfl, rfl⟩ := e
    exact FR.same _ _
  | .ret, σ, h, x, σ', h', lg, e => by
    simp only [gcode, Option.some.injEq, Prod.mk.injEq] at e
    obtain ⟨rfl, rfl, rfl, rfl⟩ := e
    exact FR.same _ _
  | .label l, σ, h, x, σ', h', lg, e => by
    simp only [gcode, Option.some.injEq, Prod.mk.injEq] at e
    obtain ⟨rfl, rfl, rfl, rfl⟩ := e
    exact FR.same _ _
  | .goto l, σ, h, x, σ', h', lg, e => by simp only [gcode] at e; cases e
  | .scope c, σ, h, x, σ', h', lg, e => by simp only [gcode] at e; cases e
  | .rangeFunc .., σ, h, x, σ', h', lg, e => by simp only [gcode] at e; cases e

theorem gcall_frame : ∀ k, CFrame (gcall P C k)
  | 0, f, args, h, v, h', lg, e => by cases e
  | k + 1, f, args, h, v, h', lg, e => by
    unfold gcall at e
    split at e
    · cases e
    · split at e
      · cases e
      · split at e
        · cases e
        · rename_i x σ2 h2 l2 hx h0
          obtain ⟨⟨v', r⟩, hr, e⟩ := Option.map_eq_some_iff.1 e
          simp only [Prod.mk.injEq] at e
          obtain ⟨rfl, rfl, rfl⟩ := e
          exact (gcode_frame (gcall_frame k) _ _ _ _ _ _ _ h0).more r
        · cases e
end

end Go.Proofs.YtklhdbkaejbajaaDoor.G

namespace Go.Proofs.YtklhdbkaejbajaaDoor.G
open Go.RowKit
set_option linter.unusedVariables false
set_option linter.unusedSimpArgs false

def GX.exit : GX → Exit
  | .nrm => .normal
  | .ext id => .exit id
  | .ret => .ret

section
variable {P : Program} {C : Cfg} {call : GCall} {nt k : Nat} {Pt F : Nat → Prop} {N : Nat}

theorem Step.relog {w : World} {ρ : Map} {Pp : Nat → Prop} {h : Heap} {lg lg2 : Lg} {w' : World} {ρ' : Map} {Pp' : Nat → Prop} {h' : Heap} (st : Step Pt w ρ Pp h lg w' ρ' Pp' h') (hw : lg2.w = lg.w) : Step Pt w ρ Pp h lg2 w' ρ' Pp' h' :=
  ⟨st.os, st.tape, st.output, st.size, st.keep, by rw [hw]; exact st.kept, st.ppnew, by rw [hw]; exact st.rhoold, st.hlen, by rw [hw]; exact st.hkeep, by rw [hw]; exact st.blocks, by rw [hw]; exact st.fresh, by rw [hw]; exact st.inj⟩

/-- What a piece of code needs, and what it does. -/
def CodeOk (P : Program) (nt : Nat) (Pt F : Nat → Prop) (N : Nat) (g : GS → Heap → GR) (c : Code) : Prop :=
  ∀ (σ : GS) (h : Heap) (x : GX) (σ' : GS) (h' : Heap) (lg : Lg) (a : Act) (w : World) (ρ : Map) (Pp : Nat → Prop) (Q : Exit → Act → World → Prop),
    g σ h = some (x, σ', h', lg) → TR w ρ Pp Pt nt σ a → Pre Pt w ρ Pp h F N → h'.length ≤ N → (∀ i, i ∈ lg.r ∨ i ∈ lg.w → F i) → (∀ i, h.length ≤ i → F i) →
    (∀ a' w' ρ' Pp', TR w' ρ' Pp' Pt nt σ' a' → Step Pt w ρ Pp h lg w' ρ' Pp' h' → Q x.exit a' w') → c.wp P Q a w

theorem loop_sound {body : GS → Heap → GR} {c : Code} (hb : CodeOk P nt Pt F N body c) (hfr : ∀ σ h x σ' h' lg, body σ h = some (x, σ', h', lg) → FR h lg h') :
    ∀ (k : Nat) (σ : GS) (h : Heap) (x : GX) (σ' : GS) (h' : Heap) (lg : Lg) (a : Act) (w : World) (ρ : Map) (Pp : Nat → Prop) (Q : Exit → Act → World → Prop),
    gloop body k σ h = some (x, σ', h', lg) → TR w ρ Pp Pt nt σ a → Pre Pt w ρ Pp h F N → h'.length ≤ N → (∀ i, i ∈ lg.r ∨ i ∈ lg.w → F i) → (∀ i, h.length ≤ i → F i) →
    (∀ a' w' ρ' Pp', TR w' ρ' Pp' Pt nt σ' a' → Step Pt w ρ Pp h lg w' ρ' Pp' h' → x ≠ .nrm → Q x.exit a' w') → Code.rounds P c Q k a w
  | 0, σ, h, x, σ', h', lg, a, w, ρ, Pp, Q, e, _, _, _, _, _, _ => by cases e
  | k + 1, σ, h, x, σ', h', lg, a, w, ρ, Pp, Q, e, tr, p, hN, hF, hnew, hQ => by
    rw [rounds_succ]
    unfold gloop at e
    split at e
    · rename_i σ1 h1 l1 h0
      obtain ⟨⟨x2, σ2, h2, l2⟩, hr, e⟩ := Option.map_eq_some_iff.1 e
      simp only [Prod.mk.injEq] at e
      obtain ⟨rfl, rfl, rfl, rfl⟩ := e
      have f1 := hfr _ _ _ _ _ _ h0
      have f2 := gloop_frame hfr k _ _ _ _ _ _ hr
      have hF1 : ∀ i, i ∈ l1.r ∨ i ∈ l1.w → F i := fun i hi => hF i (hi.imp (fun h => by simp [Lg.add, h]) (fun h => by simp [Lg.add, h]))
      have hF2 : ∀ i, i ∈ l2.r ∨ i ∈ l2.w → F i := fun i hi => hF i (hi.imp (fun h => by simp [Lg.add, h]) (fun h => by simp [Lg.add, h]))
      refine hb _ _ _ _ _ _ a w ρ Pp _ h0 tr p (Nat.le_trans f2.len hN) hF1 hnew fun a1 w1 ρ1 P1 tr1 st1 => ?_
      have p1 := st1.after p (fun i hi => hF1 i (.inr hi))
      refine loop_sound hb hfr k _ _ _ _ _ _ a1 w1 ρ1 P1 Q hr tr1 p1 hN hF2 (fun i hi => hnew i (Nat.le_trans f1.len hi)) fun a2 w2 ρ2 P2 tr2 st2 hx => ?_
      exact hQ a2 w2 ρ2 P2 tr2 (st1.trans st2 p (fun i hi => hF1 i (.inr hi)) (fun i hi => .inl (hF2 i (.inr hi)))) hx
    · rename_i hne
      refine hb _ _ _ _ _ _ a w ρ Pp _ e tr p hN hF hnew fun a1 w1 ρ1 P1 tr1 st1 => ?_
      cases x with
      | nrm => exact (hne _ _ _ e).elim
      | ext id => exact hQ a1 w1 ρ1 P1 tr1 st1 (by simp)
      | ret => exact hQ a1 w1 ρ1 P1 tr1 st1 (by simp)

theorem gloop_ne {body : GS → Heap → GR} : ∀ (k : Nat) (σ : GS) (h : Heap) (x : GX) (σ' : GS) (h' : Heap) (lg : Lg), gloop body k σ h = some (x, σ', h', lg) → x ≠ .nrm
  | 0, σ, h, x, σ', h', lg, e => by cases e
  | k + 1, σ, h, x, σ', h', lg, e => by
    unfold gloop at e
    split at e
    · rename_i σ1 h1 l1 h0
      obtain ⟨⟨x2, σ2, h2, l2⟩, hr, e⟩ := Option.map_eq_some_iff.1 e
      simp only [Prod.mk.injEq] at e
      obtain ⟨rfl, rfl, rfl, rfl⟩ := e
      exact gloop_ne k _ _ _ _ _ _ hr
    · rename_i hne
      rintro rfl
      exact (hne _ _ _ e).elim

theorem code_sound (hM : P.follows .mixedOrders = true) (hN : NameOk P) (hC : CSound P call) (hX : XSound P C) (hfr : CFrame call) : ∀ (c : Code), CodeOk P nt Pt F N (gcode P C call k nt c) c
  | .skip, σ, h, x, σ', h', lg, a, w, ρ, Pp, Q, e, tr, p, hNl, hF, hnew, hQ => by
    simp only [gcode, Option.some.injEq, Prod.mk.injEq] at e
    obtain ⟨rfl, rfl, rfl, rfl⟩ := e
    exact wp_skip (hQ a w ρ Pp tr (Step.none ..))
  | .region id ops draw, σ, h, x, σ', h', lg, a, w, ρ, Pp, Q, e, tr, p, hNl, hF, hnew, hQ => by
    simp only [gcode] at e
    obtain ⟨⟨σ2, h2, l2⟩, hr, e⟩ := Option.map_eq_some_iff.1 e
    simp only [Prod.mk.injEq] at e
    obtain ⟨rfl, rfl, rfl, rfl⟩ := e
    exact region_sound hM hN hC hX hfr hr tr p hNl hF hnew hQ
  | .seq c1 c2, σ, h, x, σ', h', lg, a, w, ρ, Pp, Q, e, tr, p, hNl, hF, hnew, hQ => by
    simp only [gcode] at e
    refine wp_seq ?_
    split at e
    · rename_i σ1 h1 l1 h0
      obtain ⟨⟨x2, σ2, h2, l2⟩, hr, e⟩ := Option.map_eq_some_iff.1 e
      simp only [Prod.mk.injEq] at e
      obtain ⟨rfl, rfl, rfl, rfl⟩ := e
      have f1 := gcode_frame hfr c1 _ _ _ _ _ _ h0
      have f2 := gcode_frame hfr c2 _ _ _ _ _ _ hr
      have hF1 : ∀ i, i ∈ l1.r ∨ i ∈ l1.w → F i := fun i hi => hF i (hi.imp (fun h => by simp [Lg.add, h]) (fun h => by simp [Lg.add, h]))
      have hF2 : ∀ i, i ∈ l2.r ∨ i ∈ l2.w → F i := fun i hi => hF i (hi.imp (fun h => by simp [Lg.add, h]) (fun h => by simp [Lg.add, h]))
      refine code_sound hM hN hC hX hfr c1 _ _ _ _ _ _ a w ρ Pp _ h0 tr p (Nat.le_trans f2.len hNl) hF1 hnew fun a1 w1 ρ1 P1 tr1 st1 => ?_
      have p1 := st1.after p (fun i hi => hF1 i (.inr hi))
      refine code_sound hM hN hC hX hfr c2 _ _ _ _ _ _ a1 w1 ρ1 P1 Q hr tr1 p1 hNl hF2 (fun i hi => hnew i (Nat.le_trans f1.len hi)) fun a2 w2 ρ2 P2 tr2 st2 => ?_
      exact hQ a2 w2 ρ2 P2 tr2 (st1.trans st2 p (fun i hi => hF1 i (.inr hi)) (fun i hi => .inl (hF2 i (.inr hi))))
    · rename_i hne
      refine code_sound hM hN hC hX hfr c1 _ _ _ _ _ _ a w ρ Pp _ e tr p hNl hF hnew fun a1 w1 ρ1 P1 tr1 st1 => ?_
      cases x with
      | nrm => exact (hne _ _ _ e).elim
      | ext id => exact hQ a1 w1 ρ1 P1 tr1 st1
      | ret => exact hQ a1 w1 ρ1 P1 tr1 st1
  | .cond o c1 c2, σ, h, x, σ', h', lg, a, w, ρ, Pp, Q, e, tr, p, hNl, hF, hnew, hQ => by
    simp only [gcode] at e
    split at e
    · rename_i t ht
      have hv := eval_EV (a := a) (x := o) p.gl (fun t _ => tr.val t) _ ht
      simp only [VR, VRi] at hv
      refine wp_cond hv ?_
      cases t with
      | true => exact code_sound hM hN hC hX hfr c1 _ _ _ _ _ _ a w ρ Pp Q e tr p hNl hF hnew hQ
      | false => exact code_sound hM hN hC hX hfr c2 _ _ _ _ _ _ a w ρ Pp Q e tr p hNl hF hnew hQ
    · cases e
  | .block id c, σ, h, x, σ', h', lg, a, w, ρ, Pp, Q, e, tr, p, hNl, hF, hnew, hQ => by
    simp only [gcode] at e
    refine wp_block ?_
    split at e
    · rename_i id' σ1 h1 l1 h0
      split at e
      · rename_i hid
        simp only [Option.some.injEq, Prod.mk.injEq] at e
        obtain ⟨rfl, rfl, rfl, rfl⟩ := e
        refine code_sound hM hN hC hX hfr c _ _ _ _ _ _ a w ρ Pp _ h0 tr p hNl hF hnew fun a1 w1 ρ1 P1 tr1 st1 => ?_
        show Exit.inBlock id Q (.exit id') a1 w1
        simp only [Exit.inBlock, hid, if_true]
        exact hQ a1 w1 ρ1 P1 tr1 st1
      · rename_i hid
        simp only [Option.some.injEq, Prod.mk.injEq] at e
        obtain ⟨rfl, rfl, rfl, rfl⟩ := e
        refine code_sound hM hN hC hX hfr c _ _ _ _ _ _ a w ρ Pp _ h0 tr p hNl hF hnew fun a1 w1 ρ1 P1 tr1 st1 => ?_
        show Exit.inBlock id Q (.exit id') a1 w1
        simp only [Exit.inBlock, hid, if_false]
        exact hQ a1 w1 ρ1 P1 tr1 st1
    · rename_i hne
      refine code_sound hM hN hC hX hfr c _ _ _ _ _ _ a w ρ Pp _ e tr p hNl hF hnew fun a1 w1 ρ1 P1 tr1 st1 => ?_
      cases x with
      | ext id => exact (hne _ _ _ _ e).elim
      | nrm => exact hQ a1 w1 ρ1 P1 tr1 st1
      | ret => exact hQ a1 w1 ρ1 P1 tr1 st1
  | .loop c, σ, h, x, σ', h', lg, a, w, ρ, Pp, Q, e, tr, p, hNl, hF, hnew, hQ => by
    simp only [gcode] at e
    exact wp_loop_rounds k (loop_sound (code_sound hM hN hC hX hfr c) (fun σ h x σ' h' lg e => gcode_frame hfr c σ h x σ' h' lg e) _ _ _ _ _ _ _ a w ρ Pp Q e tr p hNl hF hnew fun a1 w1 ρ1 P1 tr1 st1 _ => hQ a1 w1 ρ1 P1 tr1 st1)
  | .exit id, σ, h, x, σ', h', lg, a, w, ρ, Pp, Q, e, tr, p, hNl, hF, hnew, hQ => by
    simp only [gcode, Option.some.injEq, Prod.mk.injEq] at e
    obtain ⟨rfl, rfl, rfl, rfl⟩ := e
    exact wp_exit (hQ a w ρ Pp tr (Step.none ..))
  | .ret, σ, h, x, σ', h', lg, a, w, ρ, Pp, Q, e, tr, p, hNl, hF, hnew, hQ => by
    simp only [gcode, Option.some.injEq, Prod.mk.injEq] at e
    obtain ⟨rfl, rfl, rfl, rfl⟩ := e
    exact wp_ret (hQ a w ρ Pp tr (Step.none ..))
  | .label l, σ, h, x, σ', h', lg, a, w, ρ, Pp, Q, e, tr, p, hNl, hF, hnew, hQ => by
    simp only [gcode, Option.some.injEq, Prod.mk.injEq] at e
    obtain ⟨rfl, rfl, rfl, rfl⟩ := e
    exact wp_label (hQ a w ρ Pp tr (Step.none ..))
  | .goto l, σ, h, x, σ', h', lg, a, w, ρ, Pp, Q, e, tr, p, hNl, hF, hnew, hQ => by simp only [gcode] at e; cases e
  | .scope c, σ, h, x, σ', h', lg, a, w, ρ, Pp, Q, e, tr, p, hNl, hF, hnew, hQ => by simp only [gcode] at e; cases e
  | .rangeFunc .., σ, h, x, σ', h', lg, a, w, ρ, Pp, Q, e, tr, p, hNl, hF, hnew, hQ => by simp only [gcode] at e; cases e

def resOne (tmps : Array Value) : ResultVar → Sem Value
  | .tmp t => pure (tmps.getD t undef)
  | .cell b t => do loadVar t (← asAddr (tmps.getD b undef))

theorem results_eq (fn : Func) (tmps : Array Value) : results fn tmps = (do let vs ← fn.results.mapM (resOne tmps); pure (if h : vs.size = 1 then vs[0] else .tuple vs)) := rfl

theorem result_run {w : World} {ρ : Map} {Pp : Nat → Prop} {h : Heap} {σ : GS} {a : Act} (tr : TR w ρ Pp Pt nt σ a) {rv : ResultVar} {v : GV} {r : List Nat} (e : gresult P σ h rv = some (v, r)) (hb : ∀ i, i ∈ r → HB w ρ Pp Pt h i) :
    ∃ u, (resOne a.tmps rv).run P w = .ok u w ∧ VR w ρ Pp v Pt u := by
  cases rv with
  | tmp t =>
    simp only [gresult, Option.some.injEq, Prod.mk.injEq] at e
    obtain ⟨rfl, rfl⟩ := e
    exact ⟨_, rfl, tr.val t⟩
  | cell b t =>
    simp only [gresult] at e
    obtain ⟨u, h1, h2⟩ := gload_run e (tr.val b) hb
    refine ⟨u, ?_, h2⟩
    simp only [resOne]
    generalize a.tmps.getD b undef = x at h1 ⊢
    cases x with
    | pointer o =>
      cases o with
      | none => simp [Instr.loadAt, Instr.sureAddr] at h1
      | some A =>
        simp only [Instr.loadAt, Instr.sureAddr, Sem.run_bind, Sem.run_pure, Result.andThen_ok] at h1
        simp only [asAddr, Sem.run_bind, Sem.run_pure, Result.andThen_ok]
        exact h1
    | _ => simp [Instr.loadAt, Instr.sureAddr] at h1

theorem results_run {w : World} {ρ : Map} {Pp : Nat → Prop} {h : Heap} {σ : GS} {a : Act} (tr : TR w ρ Pp Pt nt σ a) {fn : Func} {v : GV} {r : List Nat} (e : gresults P fn σ h = some (v, r)) (hb : ∀ i, i ∈ r → HB w ρ Pp Pt h i) :
    ∃ u, (results fn a.tmps).run P w = .ok u w ∧ VR w ρ Pp v Pt u := by
  unfold gresults at e
  simp only [Option.bind_eq_bind, Option.bind_eq_some_iff] at e
  obtain ⟨vs, hvs, e⟩ := e
  have hr : ∀ i, i ∈ (vs.map (·.2)).flatten → i ∈ r := by
    intro i hi
    split at e
    · simp only [Option.some.injEq] at e
      subst e
      simpa using hi
    · simp only [Option.some.injEq, Prod.mk.injEq] at e
      rw [← e.2]
      exact hi
  have key : ∀ (l : List ResultVar) (vs : List (GV × List Nat)), l.mapM (gresult P σ h) = some vs → (∀ i, i ∈ (vs.map (·.2)).flatten → HB w ρ Pp Pt h i) →
      ∃ us : List Value, (l.mapM (resOne a.tmps)).run P w = .ok us w ∧ VRs w ρ Pp (vs.map (·.1)) Pt us := by
    intro l
    induction l with
    | nil => intro vs hvs _; simp at hvs; subst hvs; exact ⟨[], rfl, rfl⟩
    | cons rv l ih =>
      intro vs hvs hb
      simp only [List.mapM_cons, Option.bind_eq_bind, Option.bind_eq_some_iff, Option.pure_def, Option.some.injEq] at hvs
      obtain ⟨⟨v0, r0⟩, h1, vs', h2, rfl⟩ := hvs
      obtain ⟨u, h3, h4⟩ := result_run tr h1 (fun i hi => hb i (by simp [hi]))
      obtain ⟨us, h5, h6⟩ := ih vs' h2 (fun i hi => hb i (by simp at hi ⊢; exact .inr hi))
      refine ⟨u :: us, ?_, ⟨u, us, rfl, h4, h6⟩⟩
      simp only [List.mapM_cons, Sem.run_bind]
      rw [h3]
      simp only [Result.andThen_ok]
      rw [h5]
      rfl
  obtain ⟨us, h1, h2⟩ := key _ vs hvs (fun i hi => hb i (hr i hi))
  have hl := VRs_len h2
  have hm : (results fn a.tmps).run P w = .ok (if h : us.toArray.size = 1 then us.toArray[0] else .tuple us.toArray) w := by
    rw [results_eq, Array.mapM_eq_mapM_toList]
    simp only [Sem.run_bind, Sem.run_map, h1, Result.andThen_ok, Sem.run_pure]
  split at e
  · rename_i v0
    simp only [Option.some.injEq] at e
    subst e
    obtain ⟨u, us', rfl, h3, h4⟩ := h2
    simp only [List.map_nil, VRsi] at h4
    subst h4
    exact ⟨u, hm, h3⟩
  · rename_i hne
    simp only [Option.some.injEq, Prod.mk.injEq] at e
    obtain ⟨rfl, rfl⟩ := e
    refine ⟨.tuple us.toArray, ?_, ⟨us.toArray, rfl, h2⟩⟩
    rw [hm, dif_neg]
    intro h1
    simp at h1
    rw [h1] at hl
    simp at hl
    obtain ⟨x, hx⟩ := List.length_eq_one_iff.1 hl.symm
    exact hne x hx

theorem gcall_sound (hM : P.follows .mixedOrders = true) (hN : NameOk P) (hX : XSound P C) : ∀ k, CSound P (gcall P C k)
  | 0, f, args, h, v, h', lg, us, w, ρ, Pp, Pt, F, e, _, _, _ => by cases e
  | k + 1, f, args, h, v, h', lg, us, w, ρ, Pp, Pt, F, e, hv, p, hF => by
    have ih := gcall_sound hM hN hX k
    unfold gcall at e
    split at e
    · cases e
    · rename_i fn hfn
      split at e
      · cases e
      · rename_i c hc
        split at e
        · cases e
        · rename_i x σ2 h2 l2 hne h0
          obtain ⟨⟨v', r⟩, hr, e⟩ := Option.map_eq_some_iff.1 e
          simp only [Prod.mk.injEq] at e
          obtain ⟨rfl, rfl, rfl⟩ := e
          have hl := VRs_len hv
          refine calls_of_wp hfn hc ?_
          have tr : TR w ρ Pp Pt (max args.length fn.ntmps) (fun t => args.getD t .un) { tmps := us.toArray ++ Array.replicate (fn.ntmps - us.toArray.size) undef, defers := [] } := by
            refine ⟨by simp [hl]; omega, fun t => ?_, rfl⟩
            by_cases ht : t < args.length
            · obtain ⟨u, h1, h2⟩ := VRs_get hv t (args[t]) (by simp)
              have e1 : args.getD t .un = args[t] := by simp [List.getD, ht]
              have e2 : (us.toArray ++ Array.replicate (fn.ntmps - us.toArray.size) undef).getD t undef = u := by
                have : t < us.length := by omega
                rw [List.getElem?_eq_getElem this] at h1
                simp only [Option.some.injEq] at h1
                simp [Array.getElem?_append, this, h1]
              rw [e1, e2]
              exact h2
            · have e1 : args.getD t .un = .un := by simp [List.getD, List.getElem?_eq_none (by omega : args.length ≤ t)]
              have e2 : (us.toArray ++ Array.replicate (fn.ntmps - us.toArray.size) undef).getD t undef = undef := by
                have : ¬ t < us.length := by omega
                simp [Array.getElem?_append, this, Array.getElem?_replicate]
                split <;> rfl
              rw [e1, e2]
              rfl
          have p' := p.more
          have hF' : ∀ i, i ∈ l2.r ∨ i ∈ l2.w → F i ∨ h.length ≤ i := fun i hi => .inl (hF i (hi.imp (fun h => by simp [Lg.add, h]) (fun h => by simp [Lg.add, h])))
          refine code_sound (F := fun i => F i ∨ h.length ≤ i) (N := h2.length) hM hN ih hX (gcall_frame k) c _ _ _ _ _ _ _ w ρ Pp _ h0 tr p' (Nat.le_refl _) hF' (fun i hi => .inr hi) fun a1 w1 ρ1 P1 tr1 st1 => ?_
          have p1 := st1.after p' (fun i hi => hF' i (.inr hi))
          obtain ⟨u, q1, q2⟩ := results_run tr1 hr (fun i hi => p1.hb i (.inl (hF i (.inl (by simp [Lg.add, hi])))))
          have fin : (∃ v, (results fn a1.tmps).run P w1 = .ok v w1 ∧ (match Ending.returned v, w1 with | .returned u, w' => After Pt w ρ Pp h (l2.add ⟨r, []⟩) h2 v' u w' | _, _ => False)) :=
            ⟨u, q1, ρ1, P1, q2, st1.relog (by simp [Lg.add])⟩
          cases x with
          | ext id => exact (hne _ rfl).elim
          | nrm => exact ⟨tr1.defers, fin⟩
          | ret => exact ⟨tr1.defers, fin⟩
        · cases e
end

end Go.Proofs.YtklhdbkaejbajaaDoor.G

namespace Go.Proofs.YtklhdbkaejbajaaDoor.G
open Go.RowKit
set_option linter.unusedVariables false

def ansT : Option (GV × Heap × Lg) → Bool
  | some (.bool b, _, _) => b
  | _ => false

theorem ansT_some {x : Option (GV × Heap × Lg)} (h : ansT x = true) : ∃ h' lg, x = some (.bool true, h', lg) := by
  unfold ansT at h
  split at h
  · subst h; exact ⟨_, _, rfl⟩
  · cases h

theorem law_calls {P : Program} {C : Cfg} (hM : P.follows .mixedOrders = true) (hN : NameOk P) (hX : XSound P C) {k : Nat} {f : FuncId} {args : List GV} {us : List Value} {W : World} (e : ansT (gcall P C k f args []) = true)
    {Pp : Nat → Prop} (hpp : ∀ c, Pp c → c < W.heap.size) (hgl : GL W Pp) (hv : VRs W E0 Pp args (fun c => c < W.heap.size) us) : Calls P f us.toArray W fun e w' => e = .returned (.bool true) ∧ Below W.heap.size W w' := by
  obtain ⟨h', lg, he⟩ := ansT_some e
  have p : Pre (fun c => c < W.heap.size) W E0 Pp [] (fun _ => True) h'.length :=
    ⟨fun c hc => hc.elim (hpp c) id, fun i _ cs hcs => by simp at hcs, fun i j c _ _ _ ha => by obtain ⟨cs, loc, h1, _⟩ := ha; simp at h1, fun _ _ _ _ => rfl, hgl⟩
  refine Calls.mono (gcall_sound hM hN hX k f args [] _ h' lg us W E0 _ _ _ he hv p (fun _ _ => trivial)) fun en w' hen => ?_
  cases en with
  | returned u =>
    obtain ⟨ρ', Pp', hu, st⟩ := hen
    simp only [VR, VRi] at hu
    subst hu
    refine ⟨rfl, st.os, st.tape, st.output, st.size, fun c hc => st.kept c hc fun i _ ha => ?_⟩
    obtain ⟨cs, loc, h1, _⟩ := ha
    simp at h1
  | _ => exact hen.elim

theorem noExt {P : Program} {C : Cfg} (hx : ∀ f, C.ext f = none) : XSound P C := by
  intro f e args v us w Pp Pt h1
  rw [hx] at h1
  cases h1

theorem nameOk {P : Program} (h : (P.funcs.all fun fn => !(fn.name == "runtime.NumGoroutine")) = true) : NameOk P := by
  intro f fn hf
  have := Array.all_eq_true.1 h f (Array.getElem?_eq_some_iff.1 hf).1
  rw [(Array.getElem?_eq_some_iff.1 hf).2] at this
  simpa using this

end Go.Proofs.YtklhdbkaejbajaaDoor.G

namespace Go.Proofs.YtklhdbkaejbajaaDoor.G
open Go.RowKit Go.ChangeShapes Go.WideShapes Go.Deep
set_option linter.unusedVariables false

abbrev Told (w : World) (gs : List GV) (cs : List Value) : Prop := VRs w E0 (fun _ => False) gs (fun c => c < w.heap.size) cs

/-- A value of type t that can be read has the cells mk a, for some a that I holds of. -/
structure Tells {α : Type} (P : Program) (t : TypeId) (mk : α → List GV) (I : α → Prop) : Prop where
  len : ∀ a, (mk a).length = P.cellsOf t
  op : ∀ {H : Type} (enc : TypeId × Value → H) (w : World) (fuel : Nat) (cs : List Value) (x : DataW H × List MemPlace),
    DataW.trod enc P w 0 (fun _ => true) true fuel t cs = some x → ∃ a : α, Told w (mk a) cs ∧ I a

theorem tells_int {P : Program} {t : TypeId} {k : IntKind} (ht : P.underlying t = some (.int k)) (hs : P.cellsOf t = 1) : Tells P t (fun n => [GV.int k n]) (fun n => (Lit.int k n).wf = true) :=
  ⟨fun _ => hs.symm, fun enc w fuel cs x hx => by
    obtain ⟨n, rfl, _, hw⟩ := DataW.trod_int ht hx
    exact ⟨n, ⟨_, _, rfl, rfl, rfl⟩, hw⟩⟩
theorem tells_bool {P : Program} {t : TypeId} (ht : P.underlying t = some .bool) (hs : P.cellsOf t = 1) : Tells P t (fun n => [GV.bool n]) (fun _ => True) :=
  ⟨fun _ => hs.symm, fun enc w fuel cs x hx => by
    obtain ⟨n, rfl, _⟩ := DataW.trod_bool ht hx
    exact ⟨n, ⟨_, _, rfl, rfl, rfl⟩, trivial⟩⟩
theorem tells_string {P : Program} {t : TypeId} (ht : P.underlying t = some .string) (hs : P.cellsOf t = 1) : Tells P t (fun s => [GV.str s]) (fun s => s.size ≤ maxLen) :=
  ⟨fun _ => hs.symm, fun enc w fuel cs x hx => by
    obtain ⟨n, rfl, _, hw⟩ := DataW.trod_string ht hx
    exact ⟨n, ⟨_, _, rfl, rfl, rfl⟩, hw⟩⟩

theorem flat_len {α : Type} {f : α → List GV} {sz : Nat} (hf : ∀ a, (f a).length = sz) : ∀ xs : List α, (xs.flatMap f).length = xs.length * sz
  | [] => by simp
  | x :: xs => by rw [List.flatMap_cons, List.length_append, hf, flat_len hf xs, List.length_cons, Nat.add_mul]; omega
theorem flat_get {α : Type} {f : α → List GV} {sz : Nat} (hf : ∀ a, (f a).length = sz) : ∀ (xs : List α) (i r : Nat) (x : α), xs[i]? = some x → r < sz → (xs.flatMap f)[i * sz + r]? = (f x)[r]?
  | [], i, r, x, h, _ => by simp at h
  | y :: xs, 0, r, x, h, hr => by
    simp at h
    subst h
    rw [List.flatMap_cons, Nat.zero_mul, Nat.zero_add, List.getElem?_append_left (by rw [hf]; exact hr)]
  | y :: xs, i + 1, r, x, h, hr => by
    rw [List.flatMap_cons, List.getElem?_append_right (by rw [hf, Nat.add_mul]; omega), hf]
    rw [show (i + 1) * sz + r - sz = i * sz + r by rw [Nat.add_mul]; omega]
    exact flat_get hf xs i r x (by simpa using h) hr

theorem list_of {α : Type} {Q : Nat → α → Prop} : ∀ n : Nat, (∀ i, i < n → ∃ y, Q i y) → ∃ xs : List α, xs.length = n ∧ ∀ i y, xs[i]? = some y → Q i y
  | 0, _ => ⟨[], rfl, fun i y h => by simp at h⟩
  | k + 1, h => by
    obtain ⟨xs, h1, h2⟩ := list_of k (fun i hi => h i (by omega))
    obtain ⟨y, hy⟩ := h k (by omega)
    refine ⟨xs ++ [y], by simp [h1], fun i z hz => ?_⟩
    rcases Nat.lt_or_ge i xs.length with h | h
    · rw [List.getElem?_append_left h] at hz
      exact h2 i z hz
    · rw [List.getElem?_append_right h] at hz
      rcases Nat.eq_zero_or_pos (i - xs.length) with h0 | h0
      · rw [h0] at hz
        simp only [List.getElem?_cons_zero, Option.some.injEq] at hz
        subst hz
        have : i = k := by omega
        subst this
        exact hy
      · rw [List.getElem?_eq_none (by simp; omega)] at hz
        cases hz

/-- A slice, told by its elements; t: lent, or for good. -/
def fzl {α : Type} (t : Bool) (es : Nat) (mk : α → List GV) (xs : List α) : GV :=
  match xs with
  | [] => mt
  | x :: xs => .fz t (xs.length + 1) es ((x :: xs).flatMap mk)
def mkSl {α : Type} (es : Nat) (mk : α → List GV) (xs : List α) : List GV := [fzl true es mk xs]
def inSl {α : Type} (I : α → Prop) (xs : List α) : Prop := xs.length ≤ maxLen ∧ ∀ x ∈ xs, I x

theorem tells_slice {α : Type} {P : Program} {t e : TypeId} {mk : α → List GV} {I : α → Prop} (ht : P.underlying t = some (.slice e)) (hs : P.cellsOf t = 1) (he : Tells P e mk I) : Tells P t (mkSl (P.cellsOf e) mk) (inSl I) :=
  ⟨fun a => by simp [mkSl, hs], fun enc w fuel cs x hx => by
    rcases open_slice ht hx with ⟨rfl, _⟩ | ⟨a, len, cap, m, n, D, Pl, rfl, _, hl, hm, hmm, _, hel⟩
    · exact ⟨[], ⟨_, _, rfl, .inl ⟨rfl, rfl, rfl, rfl⟩, rfl⟩, by simp [inSl]⟩
    · simp only [if_true] at hmm
      subst hmm
      have hall : ∀ i, i < len → ∃ y : α, I y ∧ ∃ cs', w.cells? 0 (a.add (i * P.cellsOf e)) (P.cellsOf e) = some cs' ∧ Told w (mk y) cs' := by
        intro i hi
        obtain ⟨cs', h1, h2⟩ := hel i (by omega)
        obtain ⟨y, h3, h4⟩ := he.op enc w n cs' _ h2
        exact ⟨y, h4, cs', h1, h3⟩
      obtain ⟨xs, hxl, hxs⟩ := list_of len hall
      subst hxl
      cases xs with
      | nil => exact ⟨[], ⟨_, _, rfl, .inr ⟨a, m, rfl, hl, rfl, fun hne => (hne rfl).elim⟩, rfl⟩, by simp [inSl]⟩
      | cons x0 xs0 =>
      generalize hxe : x0 :: xs0 = xs at *
      refine ⟨xs, ⟨_, _, rfl, ?_, rfl⟩, by omega, fun y hy => ?_⟩
      · have hfz : fzl true (P.cellsOf e) mk xs = .fz true xs.length (P.cellsOf e) (xs.flatMap mk) := by subst hxe; rfl
        rw [hfz]
        refine .inr ⟨a, m, rfl, hl, flat_len he.len xs, fun hne => ?_⟩
        clear hfz
        have cellAt : ∀ j, j < xs.length * P.cellsOf e → ∃ u, w.cell? (a.add j) = some u ∧ ∀ g, (xs.flatMap mk)[j]? = some g → VR w E0 (fun _ => False) g (fun c => c < w.heap.size) u := by
          intro j hj
          have hpos : 0 < P.cellsOf e := by
            rcases Nat.eq_zero_or_pos (P.cellsOf e) with h0 | h0
            · rw [h0] at hj; simp at hj
            · exact h0
          have hi : j / P.cellsOf e < xs.length := Nat.div_lt_of_lt_mul (by rw [Nat.mul_comm]; exact hj)
          have hr := Nat.mod_lt j hpos
          obtain ⟨_, cs', h1, h2⟩ := hxs _ _ (List.getElem?_eq_getElem hi)
          have hlen := VRs_len h2
          rw [he.len] at hlen
          have h6 := (World.cells?_some h1).2.2 (j % P.cellsOf e) hr
          rw [Go.Deep.add_add] at h6
          rw [show j / P.cellsOf e * P.cellsOf e + j % P.cellsOf e = j by rw [Nat.mul_comm]; exact Nat.div_add_mod ..] at h6
          rw [List.getElem?_eq_getElem (by omega : j % P.cellsOf e < cs'.length)] at h6
          refine ⟨cs'[j % P.cellsOf e]'(by omega), h6, fun g hg => ?_⟩
          have h7 := flat_get he.len xs (j / P.cellsOf e) (j % P.cellsOf e) _ (List.getElem?_eq_getElem hi) hr
          rw [show j / P.cellsOf e * P.cellsOf e + j % P.cellsOf e = j by rw [Nat.mul_comm]; exact Nat.div_add_mod ..] at h7
          rw [h7] at hg
          obtain ⟨u, q1, q2⟩ := VRs_get h2 _ g hg
          rw [List.getElem?_eq_getElem (by omega : j % P.cellsOf e < cs'.length)] at q1
          simp only [Option.some.injEq] at q1
          rw [q1]
          exact q2
        have hflen := flat_len he.len xs
        have hpos : 0 < xs.length * P.cellsOf e := by
          rw [← hflen]
          exact List.length_pos_iff.2 hne
        refine ⟨?_, (List.range (xs.length * P.cellsOf e)).map fun j => (w.cell? (a.add j)).getD undef, ?_, fun j u hj => ?_⟩
        · obtain ⟨u, hu, _⟩ := cellAt 0 hpos
          have := block_lt_of_cell hu
          rw [add_block] at this
          simpa using this
        · simp only [if_true]
          refine VRs_of (by simp [hflen]) fun j g u h1 h2 => ?_
          have hj : j < xs.length * P.cellsOf e := by
            have := (List.getElem?_eq_some_iff.1 h1).1
            omega
          obtain ⟨u', q1, q2⟩ := cellAt j hj
          rw [List.getElem?_map, List.getElem?_range hj, Option.map_some, q1] at h2
          simp only [Option.getD_some, Option.some.injEq] at h2
          rw [← h2]
          exact q2 g h1
        · have hj' : j < xs.length * P.cellsOf e := by
            have := (List.getElem?_eq_some_iff.1 hj).1
            simpa using this
          obtain ⟨u', q1, q2⟩ := cellAt j hj'
          rw [List.getElem?_map, List.getElem?_range hj', Option.map_some, q1] at hj
          simp only [Option.getD_some, Option.some.injEq] at hj
          rw [← hj]
          exact q1
      · obtain ⟨i, hi⟩ := List.getElem?_of_mem hy
        exact (hxs i y hi).1⟩

/-- The fields of a struct, one behind the other from cell o on. -/
structure TellsAt {α : Type} (P : Program) (fs : List Field) (o sz : Nat) (mk : α → List GV) (I : α → Prop) : Prop where
  len : ∀ a, (mk a).length = sz
  op : ∀ {H : Type} (enc : TypeId × Value → H) (w : World) (fuel : Nat) (cs : List Value), o + sz ≤ cs.length →
    (∀ f ∈ fs, ∃ x, DataW.trod enc P w 0 (fun _ => true) true fuel f.type ((cs.drop f.offset).take (P.cellsOf f.type)) = some x) → ∃ a : α, Told w (mk a) ((cs.drop o).take sz) ∧ I a

theorem tells_last {α : Type} {P : Program} {f : Field} {mk : α → List GV} {I : α → Prop} (h : Tells P f.type mk I) : TellsAt P [f] f.offset (P.cellsOf f.type) mk I :=
  ⟨h.len, fun enc w fuel cs hl hf => by
    obtain ⟨x, hx⟩ := hf f (by simp)
    exact h.op enc w fuel _ x hx⟩

theorem tells_more {α β : Type} {P : Program} {f : Field} {fs : List Field} {sz : Nat} {mk : α → List GV} {mk' : β → List GV} {I : α → Prop} {J : β → Prop} (h : Tells P f.type mk I) (k : TellsAt P fs (f.offset + P.cellsOf f.type) sz mk' J) :
    TellsAt P (f :: fs) f.offset (P.cellsOf f.type + sz) (fun x : α × β => mk x.1 ++ mk' x.2) (fun x => I x.1 ∧ J x.2) :=
  ⟨fun a => by rw [List.length_append, h.len, k.len], fun enc w fuel cs hl hf => by
    obtain ⟨x, hx⟩ := hf f (by simp)
    obtain ⟨a, h1, h2⟩ := h.op enc w fuel _ x hx
    obtain ⟨b, h3, h4⟩ := k.op enc w fuel cs (by omega) (fun g hg => hf g (by simp [hg]))
    refine ⟨(a, b), ?_, h2, h4⟩
    rw [List.take_add, List.drop_drop]
    exact VRs_append h1 h3⟩

theorem tells_struct {α : Type} {P : Program} {t : TypeId} {fs : Array Field} {mk : α → List GV} {I : α → Prop} (ht : P.underlying t = some (.struct fs)) (h : TellsAt P fs.toList 0 (P.cellsOf t) mk I) : Tells P t mk I :=
  ⟨h.len, fun enc w fuel cs x hx => by
    obtain ⟨xs, n, rfl, _, hlen, hxl, hall⟩ := DataW.trod_struct ht hx
    obtain ⟨a, h1, h2⟩ := h.op enc w n cs (by omega) (fun f hf => by
      obtain ⟨i, hi⟩ := List.getElem?_of_mem hf
      have hi' : fs[i]? = some f := by simpa using hi
      have hlt : i < xs.length := by
        have := (Array.getElem?_eq_some_iff.1 hi').1
        omega
      exact ⟨xs[i], by rw [hall i f hi', List.getElem?_eq_getElem hlt]⟩)
    refine ⟨a, ?_, h2⟩
    have e : (cs.drop 0).take (P.cellsOf t) = cs := by rw [List.drop_zero, List.take_of_length_le (by omega)]
    rwa [e] at h1⟩

/-- The same, told by another type. -/
theorem tells_iso {α β : Type} {P : Program} {t : TypeId} {mk : α → List GV} {I : α → Prop} (f : β → α) (g : α → β) (hg : ∀ x, f (g x) = x) (h : Tells P t mk I) : Tells P t (fun y => mk (f y)) (fun y => I (f y)) :=
  ⟨fun a => h.len _, fun enc w fuel cs x hx => by
    obtain ⟨a, h1, h2⟩ := h.op enc w fuel cs x hx
    exact ⟨g a, by rw [hg]; exact h1, by rw [hg]; exact h2⟩⟩

end Go.Proofs.YtklhdbkaejbajaaDoor.G

namespace Go.Proofs.YtklhdbkaejbajaaDoor.G
open Go.RowKit
set_option linter.unusedVariables false
set_option linter.unusedSimpArgs false

def Le (c c' : GCall) : Prop := ∀ f args h r, c f args h = some r → c' f args h = some r

section
variable {P : Program} {C : Cfg} {c c' : GCall} {nt : Nat}

theorem gsplit_mono (hc : Le c c') {g : FuncId} (e : gsplit c g = true) : gsplit c' g = true := by
  unfold gsplit at e ⊢
  split at e
  · rename_i h1 l1 h2 l2 e1 e2
    rw [hc _ _ _ _ e1, hc _ _ _ _ e2]
  · cases e

theorem gcallee_mono (hc : Le c c') {g : FuncId} {args : List GV} {h : Heap} {r : GV × Heap × Lg} (e : gcallee P C c g args h = some r) : gcallee P C c' g args h = some r := by
  unfold gcallee at e ⊢
  split at e
  · cases e
  · rename_i fn hfn
    try simp only [hfn]
    split at e
    · rename_i hb
      rw [if_pos hb]
      split at e
      · rename_i ex hex
        try simp only [hex]
        exact e
      · rename_i hex
        try simp only [hex]
        split at e
        · rename_i hh
          rw [if_pos hh]
          split at e
          · rename_i hsp
            rw [if_pos hsp]
            split at e
            · rename_i hgs
              rw [if_pos (gsplit_mono hc hgs)]
              exact e
            · cases e
          · rename_i hsp
            rw [if_neg hsp]
            exact hc _ _ _ _ e
        · rename_i hh
          rw [if_neg hh]
          split at e
          · rename_i hfr
            rw [if_pos hfr]
            simp only [Option.bind_eq_bind, Option.bind_eq_some_iff] at e ⊢
            obtain ⟨xs, hxs, e⟩ := e
            refine ⟨xs, hxs, ?_⟩
            split at e
            · rename_i hsp
              rw [if_pos hsp]
              split at e
              · rename_i hgs
                rw [if_pos (gsplit_mono hc hgs)]
                exact e
              · cases e
            rename_i hsp
            rw [if_neg hsp]
            simp only [Option.bind_eq_some_iff] at e ⊢
            obtain ⟨y, hy, rest⟩ := e
            exact ⟨y, hc _ _ _ _ hy, rest⟩
          rename_i hfr
          rw [if_neg hfr]
          simp only [Option.bind_eq_bind, Option.bind_eq_some_iff] at e ⊢
          obtain ⟨xs, hxs, y, hy, rest⟩ := e
          exact ⟨xs, hxs, y, hc _ _ _ _ hy, rest⟩
    · cases e

theorem gop_mono (hc : Le c c') {ev : Operand → Option GV} {o : Oper} {h : Heap} {r : GV × Heap × Lg} (e : gop P C c ev o h = some r) : gop P C c' ev o h = some r := by
  cases ho : o.op with
  | call cl =>
    simp only [gop, ho] at e ⊢
    cases hk : cl.callee with
    | builtin b => rw [hk] at e; exact e
    | value f =>
      rw [hk] at e
      simp only [Option.bind_eq_bind, Option.bind_eq_some_iff] at e ⊢
      obtain ⟨v, hv, e⟩ := e
      refine ⟨v, hv, ?_⟩
      split at e
      · simp only [Option.bind_eq_some_iff] at e ⊢
        obtain ⟨gs, has, e⟩ := e
        exact ⟨gs, has, gcallee_mono hc e⟩
      · cases e
    | invoke r m => rw [hk] at e; cases e
  | makeFunc f a b => cases f <;> (simp only [gop, ho] at e ⊢; exact e)
  | _ => simp only [gop, ho] at e ⊢; exact e

theorem gops_mono (hc : Le c c') {ops : Array Oper} : ∀ (l : List Nat) (σ : GS) (h : Heap) (r : GS × Heap × List Rec), gops P C c nt ops l σ h = some r → gops P C c' nt ops l σ h = some r
  | [], σ, h, r, e => e
  | j :: rest, σ, h, r, e => by
    unfold gops at e ⊢
    cases hj : ops[j]? with
    | none => rw [hj] at e; cases e
    | some o =>
      rw [hj] at e
      simp only at e ⊢
      split at e
      · rename_i hd
        rw [if_pos hd]
        split at e
        · rename_i hw
          rw [if_pos hw]
          simp only [Option.bind_eq_bind, Option.bind_eq_some_iff] at e ⊢
          obtain ⟨x, hx, y, hy, rest'⟩ := e
          exact ⟨x, gop_mono hc hx, y, gops_mono hc rest _ _ _ hy, rest'⟩
        · rename_i hw
          rw [if_neg hw]
          simp only [Option.bind_eq_bind, Option.bind_eq_some_iff] at e ⊢
          obtain ⟨y, hy, rest'⟩ := e
          exact ⟨y, gops_mono hc rest _ _ _ hy, rest'⟩
      · cases e

theorem gregion_mono (hc : Le c c') {ops : Array Oper} {draw : Bool} {σ : GS} {h : Heap} {r : GS × Heap × Lg} (e : gregion P C c nt ops draw σ h = some r) : gregion P C c' nt ops draw σ h = some r := by
  unfold gregion at e ⊢
  simp only [Option.bind_eq_bind, Option.bind_eq_some_iff] at e ⊢
  obtain ⟨x, hx, e⟩ := e
  exact ⟨x, gops_mono hc _ _ _ _ hx, e⟩

theorem gloop_mono {b b' : GS → Heap → GR} (hb : ∀ σ h r, b σ h = some r → b' σ h = some r) : ∀ (k k' : Nat) (σ : GS) (h : Heap) (r : GX × GS × Heap × Lg), k ≤ k' → gloop b k σ h = some r → gloop b' k' σ h = some r
  | 0, k', σ, h, r, _, e => by cases e
  | k + 1, 0, σ, h, r, hk, e => by omega
  | k + 1, k' + 1, σ, h, r, hk, e => by
    unfold gloop at e ⊢
    split at e
    · rename_i σ1 h1 l1 h0
      rw [hb _ _ _ h0]
      obtain ⟨x, hx, e⟩ := Option.map_eq_some_iff.1 e
      exact Option.map_eq_some_iff.2 ⟨x, gloop_mono hb k k' _ _ _ (by omega) hx, e⟩
    · rename_i hne
      rw [hb _ _ _ e]
      obtain ⟨x, σ1, h1, l1⟩ := r
      cases x with
      | nrm => exact (hne _ _ _ e).elim
      | _ => rfl

theorem gcode_mono (hc : Le c c') {k k' : Nat} (hk : k ≤ k') : ∀ (x : Code) (σ : GS) (h : Heap) (r : GX × GS × Heap × Lg), gcode P C c k nt x σ h = some r → gcode P C c' k' nt x σ h = some r
  | .skip, σ, h, r, e => e
  | .region id ops draw, σ, h, r, e => by
    simp only [gcode] at e ⊢
    obtain ⟨y, hy, e⟩ := Option.map_eq_some_iff.1 e
    exact Option.map_eq_some_iff.2 ⟨y, gregion_mono hc hy, e⟩
  | .seq a b, σ, h, r, e => by
    simp only [gcode] at e ⊢
    split at e
    · rename_i σ1 h1 l1 h0
      rw [gcode_mono hc hk a _ _ _ h0]
      obtain ⟨y, hy, e⟩ := Option.map_eq_some_iff.1 e
      exact Option.map_eq_some_iff.2 ⟨y, gcode_mono hc hk b _ _ _ hy, e⟩
    · rename_i hne
      rw [gcode_mono hc hk a _ _ _ e]
      obtain ⟨x, σ1, h1, l1⟩ := r
      cases x with
      | nrm => exact (hne _ _ _ e).elim
      | _ => rfl
  | .cond o a b, σ, h, r, e => by
    simp only [gcode] at e ⊢
    split at e
    · rename_i t ht
      cases t with
      | true => exact gcode_mono hc hk a _ _ _ e
      | false => exact gcode_mono hc hk b _ _ _ e
    · cases e
  | .block id a, σ, h, r, e => by
    simp only [gcode] at e ⊢
    split at e
    · rename_i id' σ1 h1 l1 h0
      rw [gcode_mono hc hk a _ _ _ h0]
      exact e
    · rename_i hne
      rw [gcode_mono hc hk a _ _ _ e]
      obtain ⟨x, σ1, h1, l1⟩ := r
      cases x with
      | ext id => exact (hne _ _ _ _ e).elim
      | _ => rfl
  | .loop a, σ, h, r, e => by
    simp only [gcode] at e ⊢
    exact gloop_mono (fun σ h r e => gcode_mono hc hk a σ h r e) _ _ _ _ _ hk e
  | .exit id, σ, h, r, e => e
  | .ret, σ, h, r, e => e
  | .label l, σ, h, r, e => e
  | .goto l, σ, h, r, e => by simp only [gcode] at e; cases e
  | .scope a, σ, h, r, e => by simp only [gcode] at e; cases e
  | .rangeFunc .., σ, h, r, e => by simp only [gcode] at e; cases e

/-- A function's answer, its callees told by c. -/
def gfun (P : Program) (C : Cfg) (c : GCall) (k : Nat) : GCall := fun f args h =>
  match P.funcs[f]? with
  | none => none
  | some fn =>
    match fn.body with
    | none => none
    | some b =>
      match gcode P C c k (max args.length fn.ntmps) b (fun t => args.getD t .un) h with
      | some (.ext _, _, _, _) => none
      | some (_, σ, h', l) => (gresults P fn σ h').map fun (v, r) => (v, h', l.add ⟨r, []⟩)
      | none => none

theorem gcall_succ (k : Nat) : gcall P C (k + 1) = gfun P C (gcall P C k) k := rfl

theorem gfun_mono (hc : Le c c') {k k' : Nat} (hk : k ≤ k') : Le (gfun P C c k) (gfun P C c' k') := by
  intro f args h r e
  unfold gfun at e ⊢
  split at e
  · cases e
  · rename_i fn hfn
    try simp only [hfn]
    split at e
    · cases e
    · rename_i b hb
      try simp only [hb]
      split at e
      · cases e
      · rename_i x σ h' l hne h0
        rw [gcode_mono hc hk b _ _ _ h0]
        cases x with
        | ext id => exact (hne _ rfl).elim
        | _ => exact e
      · cases e

theorem gcall_le : ∀ (k : Nat), Le (gcall P C k) (gcall P C (k + 1))
  | 0 => fun f args h r e => by cases e
  | k + 1 => by
    rw [gcall_succ, gcall_succ]
    exact gfun_mono (gcall_le k) (Nat.le_succ k)

theorem gcall_mono {k k' : Nat} (h : k ≤ k') : Le (gcall P C k) (gcall P C k') := by
  induction k' with
  | zero => rw [Nat.le_zero.1 h]; exact fun _ _ _ _ e => e
  | succ n ih =>
    rcases Nat.lt_or_ge k (n + 1) with h1 | h1
    · exact fun f args h r e => gcall_le n f args h r (ih (by omega) f args h r e)
    · rw [show k = n + 1 by omega]; exact fun _ _ _ _ e => e

/-- f answers r. -/
def Gives (P : Program) (C : Cfg) (f : FuncId) (args : List GV) (h : Heap) (r : GV × Heap × Lg) : Prop := ∃ k, gcall P C k f args h = some r
end

end Go.Proofs.YtklhdbkaejbajaaDoor.G
