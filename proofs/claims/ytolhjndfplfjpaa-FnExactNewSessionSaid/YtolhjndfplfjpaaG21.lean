/- Regions; code; calls. -/
import Derived.Test.YtolhjndfplfjpaaG20
namespace Go.Proofs.Ytolhjndfplfjpaa.G
open Go.RowKit
set_option linter.unusedVariables false
set_option linter.unusedSimpArgs false

section
variable {P : Program} {C : Cfg} {call : GCall} {nt n : Nat} {ops : Array Oper} {σs : Nat → GS} {hs : Nat → Heap} {vs : Nat → GV} {lgs : Nat → Lg} {F : Nat → Prop} {L : Lg}
  {Pt : Nat → Prop} {w0 : World} {ρ0 : Map} {P0 : Nat → Prop}

theorem mem_ready {listed : Array Bool} {i : Nat} : i ∈ Region.ready .any ops listed ↔ i < ops.size ∧ listed.getD i true = false ∧ ∃ o, ops[i]? = some o ∧ ∀ e, e ∈ o.after.toList → Region.binds .any e = true → listed.getD e.on false = true := by
  unfold Region.ready
  rw [List.mem_filter, List.mem_range]
  constructor
  · rintro ⟨h1, h2⟩
    simp only [Bool.and_eq_true, Bool.not_eq_true'] at h2
    obtain ⟨h2, h3⟩ := h2
    cases ho : ops[i]? with
    | none => rw [ho] at h3; cases h3
    | some o =>
      rw [ho] at h3
      simp only [Option.map_some, Option.getD_some] at h3
      refine ⟨h1, h2, o, rfl, fun e he hb => ?_⟩
      have h4 := (Array.all_eq_true_iff_forall_mem.1 h3) e (by simpa using he)
      simpa [hb] using h4
  · rintro ⟨h1, h2, o, ho, h3⟩
    refine ⟨h1, ?_⟩
    rw [ho, h2]
    simp only [Option.map_some, Option.getD_some, Bool.not_false, Bool.true_and]
    refine Array.all_eq_true_iff_forall_mem.2 fun e he => ?_
    cases hb : Region.binds .any e with
    | false => simp
    | true => simp [h3 e (by simpa using he) hb]

def listedOf (listed : Array Bool) : Nat → Bool := fun k => listed.getD k false

theorem any_sound (hN : NameOk P) (hC : CSound P call) (hX : XSound P C) (hfr : CFrame call) (hn : n = ops.size) (hst : ∀ j, j < n → StepAt P C call nt ops σs hs vs lgs j) (ck : Chk ops hs lgs n) (hF : ∀ j, j < n → ∀ i, i ∈ (lgs j).r ∨ i ∈ (lgs j).w → F i) (hL : ∀ j, j < n → ∀ i, i ∈ (lgs j).w → i ∈ L.w)
    {Q : Exit → Act → World → Prop} (hQ : ∀ S a w ρ Pp, (∀ k, k < n → S k = true) → Inv ops σs hs vs lgs n nt F L Pt w0 ρ0 P0 S a w ρ Pp → Q .normal a w) :
    ∀ (fuel : Nat) (listed : Array Bool) (a : Act) (w : World) (ρ : Map) (Pp : Nat → Prop), listed.size = n → unl (listedOf listed) n ≤ fuel → (∀ j, j < n → listedOf listed j = true → ∀ k, ((masks ops).getD j 0).testBit k = true → listedOf listed k = true) →
      Inv ops σs hs vs lgs n nt F L Pt w0 ρ0 P0 (listedOf listed) a w ρ Pp → wpAny P .any ops Q fuel listed a w
  | 0, listed, a, w, ρ, Pp, hsz, hu, hcl, iv => by
    have hall := unl_zero (S := listedOf listed) (m := n) (by omega)
    refine ⟨List.eq_nil_iff_forall_not_mem.2 fun i hi => ?_, hQ _ a w ρ Pp hall iv⟩
    obtain ⟨h1, h2, _⟩ := mem_ready.1 hi
    have := hall i (by omega)
    simp only [listedOf] at this
    have hlt : i < listed.size := by omega
    simp [hlt] at h2 this
    rw [this] at h2
    cases h2
  | fuel + 1, listed, a, w, ρ, Pp, hsz, hu, hcl, iv => by
    refine ⟨fun hr => hQ _ a w ρ Pp (fun k => ?_) iv, fun i hi => ?_⟩
    · induction k using Nat.strongRecOn with
      | _ k ih =>
        intro hk
        cases hl : listedOf listed k with
        | true => rfl
        | false =>
          exfalso
          obtain ⟨o, ho⟩ : ∃ o, ops[k]? = some o := ⟨ops[k]'(by omega), by simp⟩
          have : k ∈ Region.ready .any ops listed := by
            refine mem_ready.2 ⟨by omega, ?_, o, ho, fun e he hb => ?_⟩
            · simp only [listedOf] at hl
              have hlt : k < listed.size := by omega
              simp [hlt] at hl ⊢
              exact hl
            · have he' := List.all_eq_true.1 ck.edges k (by simp; omega)
              simp only [ho] at he'
              have he2 := List.all_eq_true.1 he' e he
              simp only [hb, Bool.not_true, Bool.false_or, Nat.blt_eq] at he2
              exact ih e.on he2 (by omega)
          rw [hr] at this
          cases this
    · obtain ⟨h1, h2, o, ho, h3⟩ := mem_ready.1 hi
      have hi' : i < n := by omega
      have hlt : i < listed.size := by omega
      have hS : listedOf listed i = false := by
        simp only [listedOf]
        simp [hlt] at h2 ⊢
        exact h2
      have hanc : ∀ k, ((masks ops).getD i 0).testBit k = true → listedOf listed k = true := by
        intro k hk
        obtain ⟨e, q1, q2, q3, q4⟩ := masks_spec ops ck.edges i o ho k hk
        have q5 := h3 e q1 q2
        rcases q4 with rfl | q4
        · exact q5
        · exact hcl e.on (by omega) q5 k q4
      have hset : listedOf (listed.setIfInBounds i true) = setAt (listedOf listed) i := by
        funext k
        simp only [listedOf, setAt]
        by_cases hk : k = i
        · subst hk
          simp [hlt]
        · rw [if_neg hk]
          simp [Array.getElem?_setIfInBounds, Ne.symm hk]
      refine inv_step hN hC hX hfr hn hst ck hF hL iv hcl hi' hS hanc fun a' w' ρ' Pp' iv' => ?_
      refine any_sound hN hC hX hfr hn hst ck hF hL hQ fuel _ a' w' ρ' Pp' (by simp [hsz]) ?_ ?_ (by rw [hset]; exact iv')
      · rw [hset]
        have := unl_set (S := listedOf listed) (S' := setAt (listedOf listed) i) (j := i) hS (by simp [setAt]) (fun k hk => by simp [setAt, hk]) (m := n) hi'
        omega
      · rw [hset]
        intro j hj hSj k hk
        by_cases hji : j = i
        · subst hji
          by_cases hki : k = j
          · simp [setAt, hki]
          · simp only [setAt, hki, if_false]
            exact hanc k hk
        · have hSj' : listedOf listed j = true := by simpa [setAt, hji] using hSj
          by_cases hki : k = i
          · simp [setAt, hki]
          · simp only [setAt, hki, if_false]
            exact hcl j hj hSj' k hk

theorem logOf_w {l : List Rec} {i : Nat} : i ∈ (logOf l).w ↔ ∃ r, r ∈ l ∧ i ∈ r.lg.w := by
  induction l with
  | nil => simp [logOf, Lg.nil]
  | cons a l ih => simp [logOf, Lg.add, ih]
theorem logOf_r {l : List Rec} {i : Nat} : i ∈ (logOf l).r ↔ ∃ r, r ∈ l ∧ i ∈ r.lg.r := by
  induction l with
  | nil => simp [logOf, Lg.nil]
  | cons a l ih => simp [logOf, Lg.add, ih]

variable {σ σ' : GS} {h h' : Heap} {lg : Lg} {a : Act} {w : World} {ρ : Map} {Pp : Nat → Prop} {N : Nat}

theorem gregion_len (hfr : CFrame call) {draw : Bool} (e : gregion P C call nt ops draw σ h = some (σ', h', lg)) : h.length ≤ h'.length := by
  unfold gregion at e
  simp only [Option.bind_eq_bind, Option.bind_eq_some_iff] at e
  obtain ⟨⟨σ1, h1, l⟩, hr, e⟩ := e
  have := ops_seq.gops_len hfr _ _ _ _ _ _ hr
  split at e
  · split at e
    · simp only [Option.some.injEq, Prod.mk.injEq] at e
      obtain ⟨rfl, rfl, rfl⟩ := e
      exact this
    · cases e
  · simp only [Option.some.injEq, Prod.mk.injEq] at e
    obtain ⟨rfl, rfl, rfl⟩ := e
    exact this

theorem region_sound (hM : P.follows .mixedOrders = true) (hN : NameOk P) (hC : CSound P call) (hX : XSound P C) (hfr : CFrame call) {id : Nat} {draw : Bool} {Q : Exit → Act → World → Prop} (e : gregion P C call nt ops draw σ h = some (σ', h', lg))
    (tr : TR w ρ Pp Pt nt σ a) (p : Pre Pt w ρ Pp h F N) (hNle : h'.length ≤ N) (hF : ∀ i, i ∈ lg.r ∨ i ∈ lg.w → F i) (hnew : ∀ i, h.length ≤ i → F i)
    (hQ : ∀ a' w' ρ' Pp', TR w' ρ' Pp' Pt nt σ' a' → Step Pt w ρ Pp h lg w' ρ' Pp' h' → Q .normal a' w') : (Code.region id ops draw).wp P Q a w := by
  have hlen := gregion_len hfr e
  unfold gregion at e
  simp only [Option.bind_eq_bind, Option.bind_eq_some_iff] at e
  obtain ⟨⟨σ1, h1, l⟩, hr, e⟩ := e
  dsimp only at e
  cases draw with
  | false =>
    simp only [Bool.false_eq_true, if_false, Option.some.injEq, Prod.mk.injEq] at e
    obtain ⟨rfl, rfl, rfl⟩ := e
    exact wp_region (ops_seq hN hC hX _ σ h a w ρ Pp σ1 h1 l hr tr p hNle hF hlen hfr hQ)
  | true =>
    simp only [if_true] at e
    split at e
    · rename_i hck
      obtain ⟨c1, c2, c3⟩ := hck
      simp only [Option.some.injEq, Prod.mk.injEq] at e
      obtain ⟨rfl, rfl, rfl⟩ := e
      rw [List.range_eq_range'] at hr
      obtain ⟨σs, hs, vs, lgs, e1, e2, e3, e4, e5, e6⟩ := gops_run _ _ _ _ _ _ _ hr
      rw [Nat.zero_add] at e3 e4
      have hst : ∀ j, j < ops.size → StepAt P C call nt ops σs hs vs lgs j := fun j hj => e5 j (by omega) (by omega)
      have hget : ∀ j, j < ops.size → l[j]? = some (recAt hs lgs j) := by
        intro j hj
        rw [e6, List.getElem?_map, List.getElem?_range' (by omega)]
        simp
      have hmem : ∀ j, j < ops.size → recAt hs lgs j ∈ l := fun j hj => List.mem_of_getElem? (hget j hj)
      have ck : Chk ops hs lgs ops.size := ⟨c1, c2, fun i j hij hj hb => apart_of (recs_pair c3 hij (hget i (by omega)) (hget j hj) (by simpa [recAt] using hb))⟩
      have hF' : ∀ j, j < ops.size → ∀ i, i ∈ (lgs j).r ∨ i ∈ (lgs j).w → F i := fun j hj i hi => hF i (hi.imp (fun h => logOf_r.2 ⟨_, hmem j hj, h⟩) (fun h => logOf_w.2 ⟨_, hmem j hj, h⟩))
      have hL : ∀ j, j < ops.size → ∀ i, i ∈ (lgs j).w → i ∈ (logOf l).w := fun j hj i hi => logOf_w.2 ⟨_, hmem j hj, hi⟩
      have hmono : ∀ {j k : Nat}, j ≤ k → k ≤ ops.size → (hs j).length ≤ (hs k).length := fun h1 h2 => hs_mono hfr hst h1 h2
      refine wp_region_any hM ?_
      have hcur0 : ∀ m t, m ≤ ops.size → cur ops σs vs (fun _ => false) m t = σs 0 t := fun m t _ => cur_above (m := 0) (by omega) (fun _ _ _ _ => rfl)
      have hcont0 : ∀ m i, m ≤ ops.size → cont hs lgs (fun _ => false) m i = (hs 0)[i]? := fun m i _ => cont_above (m := 0) (by omega) (fun _ _ _ _ => rfl)
      have hl0 : listedOf (Array.replicate ops.size false) = fun _ => false := by
        funext k
        simp only [listedOf]
        by_cases hk : k < ops.size
        · simp [hk]
        · simp [hk]
      refine any_sound (σs := σs) (hs := hs) (vs := vs) (lgs := lgs) (F := F) (L := logOf l) (Pt := Pt) (w0 := w) (ρ0 := ρ) (P0 := Pp) (n := ops.size) (nt := nt) hN hC hX hfr rfl hst ck hF' hL (fun S a' w' ρ' Pp' hall iv => ?_) ops.size _ a _ ρ Pp (by simp) ?_ ?_ ?_
      · -- the end
        have hcn : ∀ t, cur ops σs vs S ops.size t = σs ops.size t := fun t => cur_below hst (fun k hk _ => hall k hk)
        have hcc : ∀ i, cont hs lgs S ops.size i = (hs ops.size)[i]? := fun i => cont_below hfr hst (fun k hk _ => hall k hk)
        refine hQ a' w' ρ' Pp' ⟨iv.size, fun t => ?_, iv.defers⟩ ?_
        · rw [← e3, ← hcn t]
          exact iv.val t
        · rw [← e4, ← e2]
          have hFb : ∀ i, (i ∈ (logOf l).w ∨ ((hs 0).length ≤ i ∧ i < (hs ops.size).length)) → F i := fun i hi => hi.elim (fun h => hF i (.inr h)) (fun h' => hnew i (by rw [← e2]; exact h'.1))
          refine ⟨iv.os, iv.tape, iv.output, iv.wsize, iv.keep, iv.kept, iv.ppnew, iv.rhoold, hmono (by omega) (Nat.le_refl _), fun i hi hw => ?_, fun i hi => ?_, fun i c hi ha => ?_, fun i j c hi hj hne ha hb => ?_⟩
          · have key : ∀ m, m ≤ ops.size → (hs m)[i]? = (hs 0)[i]? := by
              intro m
              induction m with
              | zero => intro _; rfl
              | succ m ih =>
                intro hm
                have hf := hs_frame hfr (hst m (by omega))
                have := hmono (j := 0) (k := m) (by omega) (by omega)
                rw [hf.keep i (by omega) (fun h => hw (hL m (by omega) i h)), ih (by omega)]
            exact key _ (Nat.le_refl _)
          · have := iv.hb i (hFb i hi)
            rw [hcc i] at this
            exact this
          · exact iv.fresh i c hi (by rw [hcc i]; exact ha)
          · have := iv.inj i j c (hFb i hi.symm) (hFb j hj.symm) hne (by rw [hcc i]; exact ha)
            rw [hcc j] at this
            exact absurd hb this
      · rw [hl0]
        have : ∀ m, unl (fun _ => false) m = m := by
          intro m
          induction m with
          | zero => rfl
          | succ m ih => unfold unl; rw [ih]; simp
        rw [this]
        exact Nat.le_refl _
      · rw [hl0]
        intro j _ h
        cases h
      · rw [hl0]
        have st := Step.drew Pt w ρ Pp h [] (w.drawn + 1)
        have mono : ∀ {g : GV} {v : Value}, VR w ρ Pp g Pt v → VR { w with drawn := w.drawn + 1 } ρ Pp g Pt v := fun {g v} hv => VR_mono st.keep g Pt Pt v (fun _ h => .inl h) (fun _ _ => rfl) hv
        have p1 := st.after p (fun i hi => by simp at hi)
        refine ⟨tr.size, tr.defers, fun t => ?_, p1.lt, p1.gl, fun i hi => ?_, fun i j c hi hj hne ha hb => ?_, fun k i m hk _ q1 q2 => ?_, rfl, rfl, rfl, Nat.le_refl _, st.keep, fun _ _ _ => rfl, fun _ h => .inl h, fun _ _ _ => rfl, fun i c hi ha => ?_⟩
        · rw [hcur0 _ t (Nat.le_refl _), e1]
          exact mono (tr.val t)
        · rw [hcont0 _ i (Nat.le_refl _), e2]
          exact p1.hb i hi
        · rw [hcont0 _ _ (Nat.le_refl _), e2] at ha hb
          exact p1.inj i j c hi hj hne ha hb
        · have h3 := hmono (j := 0) (k := k) (by omega) (by omega)
          have h4 := hmono (j := k + 1) (k := ops.size) (by omega) (Nat.le_refl _)
          refine p.nw i m ?_ ?_
          · rw [← e2]; omega
          · rw [e4] at h4; omega
        · rw [hcont0 _ _ (Nat.le_refl _)] at ha
          exact .inr ha
    · cases e
end

end Go.Proofs.Ytolhjndfplfjpaa.G
