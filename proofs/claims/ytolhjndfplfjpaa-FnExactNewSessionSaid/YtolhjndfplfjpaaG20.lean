/- Regions in any order: one operation, all of them. -/
import Derived.Test.YtolhjndfplfjpaaG19
namespace Go.Proofs.Ytolhjndfplfjpaa.G
open Go.RowKit
set_option linter.unusedVariables false
set_option linter.unusedSimpArgs false

section
variable {P : Program} {C : Cfg} {call : GCall} {nt n : Nat} {ops : Array Oper} {σs : Nat → GS} {hs : Nat → Heap} {vs : Nat → GV} {lgs : Nat → Lg} {F : Nat → Prop} {L : Lg}
  {Pt : Nat → Prop} {w0 : World} {ρ0 : Map} {P0 : Nat → Prop}

/-- What was checked of a region. -/
structure Chk (ops : Array Oper) (hs : Nat → Heap) (lgs : Nat → Lg) (n : Nat) : Prop where
  slots : slotsOk ops (masks ops) = true
  edges : edgesOk ops = true
  recs : ∀ i j, i < j → j < n → ((masks ops).getD j 0).testBit i = false → Apart (recAt hs lgs i) (recAt hs lgs j)

def setAt (S : Nat → Bool) (j : Nat) : Nat → Bool := fun k => if k = j then true else S k

theorem inv_put (hfr : CFrame call) (hn : n = ops.size) (hst : ∀ j, j < n → StepAt P C call nt ops σs hs vs lgs j) (ck : Chk ops hs lgs n) (hF : ∀ j, j < n → ∀ i, i ∈ (lgs j).r ∨ i ∈ (lgs j).w → F i) (hL : ∀ j, j < n → ∀ i, i ∈ (lgs j).w → i ∈ L.w)
    {S : Nat → Bool} {a : Act} {w : World} {ρ : Map} {Pp : Nat → Prop} (iv : Inv ops σs hs vs lgs n nt F L Pt w0 ρ0 P0 S a w ρ Pp) (hcl : ∀ j, j < n → S j = true → ∀ k, ((masks ops).getD j 0).testBit k = true → S k = true)
    {j : Nat} (hj : j < n) (hS : S j = false) (hanc : ∀ k, ((masks ops).getD j 0).testBit k = true → S k = true) {o : Oper} (ho : ops[j]? = some o) (hd : dstOk nt o.dst = true)
    (A3 : ∀ i, i ∈ (lgs j).r ∨ i ∈ (lgs j).w → cont hs lgs S n i = (hs j)[i]?)
    {u : Value} {w' : World} {ρ' : Map} {Pp' : Nat → Prop} (hu : VR w' ρ' Pp' (vs j) Pt u) (st : Step Pt w ρ Pp (hs j) (lgs j) w' ρ' Pp' (hs (j + 1))) :
    Inv ops σs hs vs lgs n nt F L Pt w0 ρ0 P0 (setAt S j) (a.put o.dst u) w' ρ' Pp' := by
  have hdj : dstAt ops j = o.dst := by simp [dstAt, ho]
  have bit : ∀ k, k < n → S k = true → ((masks ops).getD k 0).testBit j = false := by
    intro k hk hSk
    cases hb : ((masks ops).getD k 0).testBit j with
    | false => rfl
    | true => rw [hcl k hk hSk j hb] at hS; cases hS
  have bit' : ∀ k, S k = false → ((masks ops).getD j 0).testBit k = false := by
    intro k hk
    cases hb : ((masks ops).getD j 0).testBit k with
    | false => rfl
    | true => rw [hanc k hb] at hk; cases hk
  have apUp : ∀ k, j < k → k < n → S k = true → Apart (recAt hs lgs j) (recAt hs lgs k) := fun k h1 h2 h3 => ck.recs j k h1 h2 (bit k h2 h3)
  have apDn : ∀ k, k < j → S k = false → Apart (recAt hs lgs k) (recAt hs lgs j) := fun k h1 h3 => ck.recs k j h1 hj (bit' k h3)
  have fr := hs_frame hfr (hst j hj)
  have atc : ∀ i c, i ∈ (lgs j).w → At ρ (hs j) i c → Atc ρ (cont hs lgs S n i) i c := fun i c hi ha => by rw [A3 i (.inr hi)]; exact ha
  have stays : ∀ c, Pp c ∨ Pt c → w'.heap[c]? = w.heap[c]? := fun c hc => st.kept c (iv.lt c hc) fun i hi ha => by
    have := (Atc.lt (iv.hb i (hF j hj i (.inr hi))) (atc i c hi ha)).2
    rcases hc with hc | hc
    · exact this.1 hc
    · exact this.2 hc
  have mono : ∀ {g : GV} {v : Value}, VR w ρ Pp g Pt v → VR w' ρ' Pp' g Pt v := fun {g v} hv => VR_mono st.keep g Pt Pt v (fun _ h => .inl h) stays hv
  have hm1 : (hs (j + 1)).length ≤ (hs n).length := hs_mono hfr hst (by omega) (Nat.le_refl _)
  have hm0 : (hs 0).length ≤ (hs j).length := hs_mono hfr hst (by omega) (by omega)
  -- contents after
  have contT : ∀ i, touches (recAt hs lgs j) i = true → cont hs lgs (setAt S j) n i = (hs (j + 1))[i]? := by
    intro i ht
    rw [cont_above (m := j + 1) (by omega) (fun k h1 h2 h3 => ?_)]
    · unfold cont
      rw [if_pos ⟨by simp [setAt], ht⟩]
    · have hkj : k ≠ j := by omega
      simp only [setAt, hkj, if_false]
      cases hSk : S k with
      | false => rfl
      | true =>
        have ap := apUp k (by omega) h2 hSk
        rcases touches_iff.1 ht with h4 | ⟨h4, h5⟩
        · have := (ap.ww i h4).1
          rw [h3] at this; cases this
        · rcases touches_iff.1 h3 with h6 | ⟨h6, h7⟩
          · have := (ap.ww' i h6).1
            rw [ht] at this; cases this
          · have := hs_mono hfr hst (j := j + 1) (k := k) (by omega) (by omega)
            omega
  have contN : ∀ i, touches (recAt hs lgs j) i = false → cont hs lgs (setAt S j) n i = cont hs lgs S n i := by
    intro i ht
    refine cont_congr fun k hk hkt => ?_
    have hkj : k ≠ j := by rintro rfl; rw [ht] at hkt; cases hkt
    simp [setAt, hkj]
  have notT : ∀ i, touches (recAt hs lgs j) i = false → i ∉ (lgs j).w ∧ (i < (hs j).length ∨ (hs (j + 1)).length ≤ i) := by
    intro i ht
    have h' : ¬ (i ∈ (lgs j).w ∨ ((hs j).length ≤ i ∧ i < (hs (j + 1)).length)) := by rw [← touches_iff, ht]; simp
    refine ⟨fun e => h' (.inl e), ?_⟩
    rcases Nat.lt_or_ge i (hs j).length with h1 | h1
    · exact .inl h1
    · rcases Nat.lt_or_ge i (hs (j + 1)).length with h2 | h2
      · exact absurd (.inr ⟨h1, h2⟩) h'
      · exact .inr h2
  have rhoN : ∀ i m, touches (recAt hs lgs j) i = false → ρ' i m = ρ i m := fun i m ht => by
    obtain ⟨h1, h2⟩ := notT i ht
    exact st.rhoold i m (h2.imp (fun h => ⟨h, h1⟩) id)
  have key : ∀ i c, Atc ρ' (cont hs lgs (setAt S j) n i) i c → Atc ρ (cont hs lgs S n i) i c ∨ (w.heap.size ≤ c ∧ c < w'.heap.size ∧ touches (recAt hs lgs j) i = true) := by
    intro i c ha
    cases ht : touches (recAt hs lgs j) i with
    | true =>
      rw [contT i ht] at ha
      have hti := touches_iff.1 ht
      rcases st.fresh i c hti ha with h | h
      · exact .inr ⟨h.1, h.2, rfl⟩
      · have hb := h.bound
        rcases hti with h4 | ⟨h4, _⟩
        · exact .inl (atc i c h4 h)
        · omega
    | false =>
      rw [contN i ht] at ha
      obtain ⟨cs, loc, h1, h2, h3⟩ := ha
      exact .inl ⟨cs, loc, h1, by rw [← rhoN i _ ht]; exact h2, h3⟩
  refine ⟨by rw [put_size]; exact iv.size, by rw [put_defers]; exact iv.defers, fun t => ?_, fun c hc => ?_, iv.gl.mono st.keep st.os st.tape st.output st.size fun c hc => stays c (.inl hc), fun i hFi => ?_, fun i k c hi hk hne ha hb => ?_, fun k i m hk hSk h1 h2 => ?_, st.os.trans iv.os, st.tape.trans iv.tape, st.output.trans iv.output,
    Nat.le_trans iv.wsize st.size, iv.keep.trans st.keep, fun c hc hno => ?_, fun c hc => ?_, fun i m hi => ?_, fun i c hi ha => ?_⟩
  · rw [getD_put (by rw [iv.size]; exact hd)]
    by_cases hdt : o.dst = some t
    · rw [if_pos hdt]
      have : cur ops σs vs (setAt S j) n t = vs j := by
        rw [cur_above (m := j + 1) (by omega) (fun k h1 h2 h3 => ?_)]
        · unfold cur
          rw [if_pos ⟨by simp [setAt], by rw [hdj]; exact hdt⟩]
        · have hkj : k ≠ j := by omega
          simp only [setAt, hkj, if_false]
          cases hSk : S k with
          | false => rfl
          | true =>
            cases hok : ops[k]? with
            | none => simp [dstAt, hok] at h3
            | some ok =>
              simp only [dstAt, hok, Option.bind_some] at h3
              have := (slots_pair ck.slots (by omega : j < k) ho hok (bit k h2 hSk)).2 t h3
              exact absurd (by simp [slotsOf, hdt]) this
      rw [this]
      exact hu
    · rw [if_neg hdt]
      have : cur ops σs vs (setAt S j) n t = cur ops σs vs S n t := cur_congr fun k hk hkt => by
        have hkj : k ≠ j := by rintro rfl; rw [hdj] at hkt; exact hdt hkt
        simp [setAt, hkj]
      rw [this]
      exact mono (iv.val t)
  · have := st.size
    rcases hc with hc | hc
    · rcases st.ppnew c hc with h | h
      · have := iv.lt c (.inl h); omega
      · exact h.2
    · have := iv.lt c (.inr hc); omega
  · cases ht : touches (recAt hs lgs j) i with
    | true =>
      rw [contT i ht]
      exact st.blocks i (touches_iff.1 ht)
    | false =>
      rw [contN i ht]
      intro cs hcs
      obtain ⟨⟨loc, h1, ⟨rc, ty, lo, hi', h4, h5, h6, h7⟩, h8, h9⟩, h10⟩ := iv.hb i hFi cs hcs
      have hc : loc.1 < w.heap.size := (Array.getElem?_eq_some_iff.1 h4).1
      refine ⟨⟨loc, by rw [rhoN i _ ht]; exact h1, ⟨rc, ty, lo, hi', ?_, h5, h6, fun q g hg => ?_⟩, fun hp => ?_, h9⟩, fun m hm => by rw [rhoN i _ ht]; exact h10 m hm⟩
      · rw [st.kept loc.1 hc fun k hk ha => ?_]
        · exact h4
        · have hki : i ≠ k := by
            rintro rfl
            exact (notT i ht).1 hk
          exact iv.inj i k loc.1 hFi (hF j hj k (.inr hk)) hki ⟨cs, loc, hcs, h1, rfl⟩ (atc k _ hk ha)
      · obtain ⟨u, h11, h12⟩ := h7 q g hg
        exact ⟨u, h11, mono h12⟩
      · rcases st.ppnew _ hp with h | h
        · exact h8 h
        · omega
  · rcases key i c ha with h1 | ⟨h1, _, h1'⟩
    · rcases key k c hb with h2 | ⟨h2, _, _⟩
      · exact iv.inj i k c hi hk hne h1 h2
      · have := (Atc.lt (iv.hb i hi) h1).1
        omega
    · rcases key k c hb with h2 | ⟨h2, _, h2'⟩
      · have := (Atc.lt (iv.hb k hk) h2).1
        omega
      · rw [contT i h1'] at ha
        rw [contT k h2'] at hb
        have := st.inj i k c (touches_iff.1 h1').symm (touches_iff.1 h2').symm hne ha hb
        omega
  · have hkj : k ≠ j := by rintro rfl; simp [setAt] at hSk
    have hSk' : S k = false := by simpa [setAt, hkj] using hSk
    have hold := iv.nw k i m hk hSk' h1 h2
    rw [← hold]
    refine st.rhoold i m ?_
    rcases Nat.lt_or_ge k j with hlt | hge
    · have h3 := hs_mono hfr hst (j := k + 1) (k := j) (by omega) (by omega)
      refine .inl ⟨by omega, fun hw => ?_⟩
      have := ((apDn k hlt hSk').ww' i hw).1
      rw [touches_iff.2 (.inr ⟨h1, h2⟩)] at this
      cases this
    · have h3 := hs_mono hfr hst (j := j + 1) (k := k) (by omega) (by omega)
      exact .inr (by omega)
  · rw [st.kept c (Nat.lt_of_lt_of_le hc iv.wsize) fun i hi ha => ?_]
    · exact iv.kept c hc hno
    · rcases iv.fresh i c (.inl (hL j hj i hi)) (atc i c hi ha) with h | h
      · omega
      · exact hno i (hL j hj i hi) h
  · have := st.size
    have := iv.wsize
    rcases st.ppnew c hc with h | h
    · rcases iv.ppnew c h with h | h
      · exact .inl h
      · exact .inr ⟨h.1, by omega⟩
    · exact .inr ⟨by omega, h.2⟩
  · rw [← iv.rhoold i m hi]
    refine st.rhoold i m ?_
    rcases hi with ⟨h1, h2⟩ | h1
    · exact .inl ⟨by omega, fun h => h2 (hL j hj i h)⟩
    · exact .inr (by omega)
  · have := st.size
    have := iv.wsize
    rcases key i c ha with h | ⟨h1, h2, _⟩
    · rcases iv.fresh i c hi h with h | h
      · exact .inl ⟨h.1, by omega⟩
      · exact .inr h
    · exact .inl ⟨by omega, h2⟩

theorem inv_step (hN : NameOk P) (hC : CSound P call) (hX : XSound P C) (hfr : CFrame call) (hn : n = ops.size) (hst : ∀ j, j < n → StepAt P C call nt ops σs hs vs lgs j) (ck : Chk ops hs lgs n) (hF : ∀ j, j < n → ∀ i, i ∈ (lgs j).r ∨ i ∈ (lgs j).w → F i) (hL : ∀ j, j < n → ∀ i, i ∈ (lgs j).w → i ∈ L.w)
    {S : Nat → Bool} {a : Act} {w : World} {ρ : Map} {Pp : Nat → Prop} (iv : Inv ops σs hs vs lgs n nt F L Pt w0 ρ0 P0 S a w ρ Pp) (hcl : ∀ j, j < n → S j = true → ∀ k, ((masks ops).getD j 0).testBit k = true → S k = true)
    {j : Nat} (hj : j < n) (hS : S j = false) (hanc : ∀ k, ((masks ops).getD j 0).testBit k = true → S k = true) {K : Act → World → Prop} {Q : Exit → Act → World → Prop}
    (hK : ∀ a' w' ρ' Pp', Inv ops σs hs vs lgs n nt F L Pt w0 ρ0 P0 (setAt S j) a' w' ρ' Pp' → K a' w') : wpOp P ops Q j K a w := by
  obtain ⟨o, ho, hd, hσ, hop⟩ := (hst j hj).ex
  have bit : ∀ k, k < n → S k = true → ((masks ops).getD k 0).testBit j = false := by
    intro k hk hSk
    cases hb : ((masks ops).getD k 0).testBit j with
    | false => rfl
    | true => rw [hcl k hk hSk j hb] at hS; cases hS
  have bit' : ∀ k, S k = false → ((masks ops).getD j 0).testBit k = false := by
    intro k hk
    cases hb : ((masks ops).getD j 0).testBit k with
    | false => rfl
    | true => rw [hanc k hb] at hk; cases hk
  have A1 : ∀ t, t ∈ slotsOf ops o → cur ops σs vs S n t = σs j t := by
    intro t ht
    rw [cur_above (m := j) (by omega) (fun k h1 h2 h3 => ?_)]
    · refine cur_below (fun k hk => hst k (by omega)) fun k hk hkt => ?_
      cases hSk : S k with
      | true => rfl
      | false =>
        cases hok : ops[k]? with
        | none => simp [dstAt, hok] at hkt
        | some ok =>
          simp only [dstAt, hok, Option.bind_some] at hkt
          exact absurd ht ((slots_pair ck.slots hk hok ho (bit' k hSk)).1 t hkt)
    · by_cases hkj : k = j
      · subst hkj; exact hS
      · cases hSk : S k with
        | false => rfl
        | true =>
          cases hok : ops[k]? with
          | none => simp [dstAt, hok] at h3
          | some ok =>
            simp only [dstAt, hok, Option.bind_some] at h3
            exact absurd ht ((slots_pair ck.slots (by omega : j < k) ho hok (bit k h2 hSk)).2 t h3)
  have A3 : ∀ i, i ∈ (lgs j).r ∨ i ∈ (lgs j).w → cont hs lgs S n i = (hs j)[i]? := by
    intro i hi
    rw [cont_above (m := j) (by omega) (fun k h1 h2 h3 => ?_)]
    · refine cont_below hfr (fun k hk => hst k (by omega)) fun k hk hkt => ?_
      cases hSk : S k with
      | true => rfl
      | false =>
        have ap := ck.recs k j hk hj (bit' k hSk)
        rcases hi with hi | hi
        · have := ap.r i hi
          rw [hkt] at this; cases this
        · have := (ap.ww' i hi).1
          rw [hkt] at this; cases this
    · by_cases hkj : k = j
      · subst hkj; exact hS
      · cases hSk : S k with
        | false => rfl
        | true =>
          have ap := ck.recs j k (by omega) h2 (bit k h2 hSk)
          rcases hi with hi | hi
          · have := ap.r' i hi
            rw [h3] at this; cases this
          · have := (ap.ww i hi).1
            rw [h3] at this; cases this
  have A1v : ∀ t, t ∈ slotsOf ops o → VR w ρ Pp (σs j t) Pt (a.tmps.getD t undef) := fun t ht => by
    rw [← A1 t ht]
    exact iv.val t
  unfold wpOp
  simp only [ho]
  have hw : Region.wanted o (yielded ops a.tmps) = Region.wanted o (gyield ops (σs j)) := wanted_eq fun q want d hg hq => A1v d (by
    simp only [slotsOf, hg, hq]
    simp)
  rw [hw]
  rcases hop with ⟨h1, h2⟩ | ⟨h1, h2, h3, h4⟩
  · rw [if_pos h1]
    left
    have p : Pre Pt w ρ Pp (hs j) (fun i => i ∈ (lgs j).r ∨ i ∈ (lgs j).w) (hs (j + 1)).length := by
      refine ⟨iv.lt, fun i hi => ?_, fun i k c hi hk hne ha hb => ?_, fun i m q1 q2 => iv.nw j i m hj hS q1 q2, iv.gl⟩
      · have := iv.hb i (hF j hj i hi)
        rw [A3 i hi] at this
        exact this
      · have := iv.inj i k c (hF j hj i hi) (hF j hj k hk) hne
        rw [A3 i hi, A3 k hk] at this
        exact this ha hb
    refine op_sound hN hC hX h2 (fun x hx => eval_EV iv.gl fun t ht => A1v t ?_) p (fun i hi => hi) _ _ fun u w' ⟨ρ', Pp', hv, st⟩ => ?_
    · subst ht
      simp only [slotsOf, List.mem_append, List.mem_filterMap]
      exact .inl (.inr ⟨_, hx, rfl⟩)
    · exact hK _ _ ρ' Pp' (inv_put hfr hn hst ck hF hL iv hcl hj hS hanc ho hd A3 hv st)
  · rw [if_neg (by rw [h1]; simp)]
    refine hK _ _ ρ Pp (inv_put hfr hn hst ck hF hL iv hcl hj hS hanc ho hd A3 (u := undef) (by rw [h2]; simp [VR, VRi]) ?_)
    rw [h3, h4]
    exact Step.none ..
end

end Go.Proofs.Ytolhjndfplfjpaa.G
