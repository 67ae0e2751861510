/- A region that asks the tape for its order: its operation that is a move and waits for nothing is done ahead. No dump is imported. -/
import Derived.Test.YtngbibaphakifaaDoorTools
namespace Go
open Go.RowKit

/-- only the plain end counts -/
def onlyN (Q : Exit → Act → World → Prop) : Exit → Act → World → Prop := fun e a w => e = .normal ∧ Q .normal a w
@[go_sem] theorem onlyN_normal (Q : Exit → Act → World → Prop) (a : Act) (w : World) : onlyN Q .normal a w ↔ Q .normal a w := ⟨fun h => h.2, fun h => ⟨rfl, h⟩⟩
theorem onlyN_lets {Q : Exit → Act → World → Prop} (h : LetsOut (onlyN Q)) : False := by
  obtain ⟨a, w, h, _⟩ := h
  cases h

section
variable {P : Program}

/-- another operation than the move f that may come ahead of it: it does not look at d, and it writes neither d nor t -/
def besideOk (ops : Array Oper) (d t : Nat) (p : Oper) : Bool :=
  !(p.looksAt ops).contains d && (p.dst != some d && (p.dst != some t && (match p.op with | .select _ _ => false | _ => true)))
/-- operation f is a move of slot t to slot d that waits for nothing -/
def hoistOk (l : List Oper) (f d t : Nat) : Bool :=
  match l[f]? with
  | some o => (match o.op with | .move (.tmp x) => x == t | _ => false) && (o.dst == some d && (o.after.all (fun e => !Region.binds .any e) && (o.guard.isNone && (d != t &&
      (List.range l.length).all fun i => i == f || (ancB l i f || match l[i]? with | some p => besideOk l.toArray d t p | none => true)))))
  | none => false

/-- of an operation that is ready all forerunners are done -/
theorem anc_listed {l : List Oper} (hB : ancOk l (ancAll l []) = true) {listed : Array Bool} (hcl : ∀ (i : Nat) (A : List Nat), listed[i]? = some true → (ancAll l [])[i]? = some A → ∀ j ∈ A, listed[j]? = some true) {i : Nat} (hi : i ∈ Region.ready .any l.toArray listed) {A : List Nat} (hA : (ancAll l [])[i]? = some A) : ∀ j ∈ A, listed[j]? = some true := by
  obtain ⟨hun, o, ho, hafter⟩ := mem_ready.1 hi
  have hol : l[i]? = some o := by simpa using ho
  obtain ⟨A', hA', hok⟩ := ancOk_at hB hol
  rw [hA] at hA'; cases hA'
  simp only [ancOk1, Bool.and_eq_true, List.all_eq_true, Array.any_eq_true] at hok
  intro j hj
  have h1 := (hok.1.2 j hj)
  obtain ⟨k, hk, he⟩ := h1.2
  simp only [Bool.or_eq_true] at he
  have hl := hafter _ (Array.getElem_mem hk) he.1
  have hl' : listed[(o.after[k]'hk).on]? = some true := by
    cases hx : listed[(o.after[k]'hk).on]? with
    | none => simp [Array.getD_eq_getD_getElem?, hx] at hl
    | some b => simp [Array.getD_eq_getD_getElem?, hx] at hl; rw [hl]
  rcases he.2 with he | he
  · have : (o.after[k]'hk).on = j := by simpa using he
    rw [← this]; exact hl'
  · cases hB' : (ancAll l [])[(o.after[k]'hk).on]? with
    | none => rw [hB'] at he; simp at he
    | some B => rw [hB'] at he; exact hcl _ B hl' hB' j (by simpa using he)

theorem wpAny_hoist {Q : Exit → Act → World → Prop} {l : List Oper} {f d t : Nat} (hh : hoistOk l f d t = true) (hB : ancOk l (ancAll l []) = true) : ∀ (fuel : Nat) (listed : Array Bool) (a : Act) (w : World), f < listed.size → listed.getD f true = false → (∀ (i : Nat) (A : List Nat), listed[i]? = some true → (ancAll l [])[i]? = some A → ∀ j ∈ A, listed[j]? = some true) →
    wpAny P .any l.toArray (onlyN Q) fuel (listed.setIfInBounds f true) (a.put (some d) (a.eval (.tmp t))) w → wpAny P .any l.toArray (onlyN Q) (fuel + 1) listed a w := by
  cases ho : l[f]? with
  | none => simp [hoistOk, ho] at hh
  | some o =>
  simp only [hoistOk, ho, Bool.and_eq_true, List.all_eq_true] at hh
  obtain ⟨hop, hdst, haf, hgd, hdt, hall⟩ := hh
  have hop : o.op = .move (.tmp t) := by
    cases h : o.op with
    | move x =>
      cases x with
      | tmp x => rw [h] at hop; simp at hop; rw [hop]
      | _ => rw [h] at hop; simp at hop
    | _ => rw [h] at hop; simp at hop
  have hdst : o.dst = some d := by simpa using hdst
  have hgd : o.guard = none := by simpa using hgd
  have hdt : d ≠ t := by simpa using hdt
  intro fuel
  induction fuel with
  | zero =>
    intro listed a w hf hl hcl h
    refine ⟨fun hr => ?_, fun i hi => ?_⟩
    · exfalso
      have : f ∈ Region.ready .any l.toArray listed := mem_ready.2 ⟨hl, o, by simpa using ho, fun e he hb => by
        have := Array.all_eq_true_iff_forall_mem.1 haf e he
        simp [hb] at this⟩
      rw [hr] at this; cases this
    · by_cases hif : i = f
      · subst hif
        unfold wpOp
        simp only [show l.toArray[i]? = some o by simpa using ho]
        have hw : Region.wanted o (yielded l.toArray a.tmps) = true := by unfold Region.wanted; rw [hgd]
        rw [if_pos hw]
        left
        unfold Oper.wp execOp
        simp only [hop, Sem.run_pure, Oper.upon, hdst]
        exact h
      · exfalso
        obtain ⟨hun, p, hp, hwait⟩ := mem_ready.1 hi
        have : i ∈ Region.ready .any l.toArray (listed.setIfInBounds f true) := mem_ready.2 ⟨by
          rw [Array.getD_eq_getD_getElem?, Array.getElem?_setIfInBounds_ne (Ne.symm hif), ← Array.getD_eq_getD_getElem?]; exact hun, p, hp, fun e he hb => by
          have h1 := hwait e he hb
          by_cases e2 : e.on = f
          · rw [e2] at h1
            simp [Array.getD_eq_getD_getElem?, hf] at h1 hl
            rw [hl] at h1; cases h1
          · rw [Array.getD_eq_getD_getElem?, Array.getElem?_setIfInBounds_ne (Ne.symm e2), ← Array.getD_eq_getD_getElem?]; exact h1⟩
        rw [h.1] at this; cases this
  | succ fuel ih =>
    intro listed a w hf hl hcl h
    refine ⟨fun hr => ?_, fun i hi => ?_⟩
    · exfalso
      have : f ∈ Region.ready .any l.toArray listed := mem_ready.2 ⟨hl, o, by simpa using ho, fun e he hb => by
        have := Array.all_eq_true_iff_forall_mem.1 haf e he
        simp [hb] at this⟩
      rw [hr] at this; cases this
    · by_cases hif : i = f
      · subst hif
        unfold wpOp
        simp only [show l.toArray[i]? = some o by simpa using ho]
        have hw : Region.wanted o (yielded l.toArray a.tmps) = true := by unfold Region.wanted; rw [hgd]
        rw [if_pos hw]
        left
        show o.wp P a w (wpAny P .any l.toArray (onlyN Q) (fuel + 1) (listed.setIfInBounds i true)) (onlyN Q)
        unfold Oper.wp execOp
        simp only [hop, Sem.run_pure, Oper.upon, hdst]
        exact h
      · obtain ⟨hun, p, hp, hwait⟩ := mem_ready.1 hi
        have hready : i ∈ Region.ready .any l.toArray (listed.setIfInBounds f true) := mem_ready.2 ⟨by
          rw [Array.getD_eq_getD_getElem?, Array.getElem?_setIfInBounds_ne (Ne.symm hif), ← Array.getD_eq_getD_getElem?]; exact hun, p, hp, fun e he hb => by
          have h1 := hwait e he hb
          by_cases e2 : e.on = f
          · rw [e2] at h1
            simp [Array.getD_eq_getD_getElem?, hf] at h1 hl
            rw [hl] at h1; cases h1
          · rw [Array.getD_eq_getD_getElem?, Array.getElem?_setIfInBounds_ne (Ne.symm e2), ← Array.getD_eq_getD_getElem?]; exact h1⟩
        have hpl : l[i]? = some p := by simpa using hp
        have hil : i < l.length := (List.getElem?_eq_some_iff.1 hpl).1
        have hbe := hall i (List.mem_range.2 hil)
        rw [hpl, Bool.or_eq_true, Bool.or_eq_true] at hbe
        have hna : ancB l i f ≠ true := by
          intro han
          unfold ancB at han
          cases hA : (ancAll l [])[i]? with
          | none => rw [hA] at han; simp at han
          | some A =>
            rw [hA] at han
            have h3 := anc_listed hB hcl hi hA f (by simpa using han)
            rw [Array.getD_eq_getD_getElem?, h3] at hl
            cases hl
        have hbe : besideOk l.toArray d t p = true := by
          rcases hbe with h1 | h1 | h1
          · exact absurd (by simpa using h1) hif
          · exact absurd h1 hna
          · exact h1
        simp only [besideOk, Bool.and_eq_true] at hbe
        obtain ⟨hlook, hpd, hpt, hsel⟩ := hbe
        have hns : ∀ cs b, p.op ≠ .select cs b := by
          intro cs b e; rw [e] at hsel; cases hsel
        have hlook : ∀ x ∈ p.looksAt l.toArray, x ≠ d := by
          intro x hx e
          subst e
          simp at hlook; exact hlook hx
        have hpd : p.dst ≠ some d := by simpa using hpd
        have hpt : p.dst ≠ some t := by simpa using hpt
        have hsees : ∀ x ∈ p.looksAt l.toArray, (a.put (some d) (a.eval (.tmp t))).tmps[x]? = a.tmps[x]? := by
          intro x hx
          rw [Act.put_at, if_neg (hlook x hx)]
        have h1 := h.2 i hready
        unfold wpOp at h1 ⊢
        simp only [hp] at h1 ⊢
        rw [wanted_sees p hsees] at h1
        have hset : (listed.setIfInBounds f true).setIfInBounds i true = (listed.setIfInBounds i true).setIfInBounds f true := Array.setIfInBounds_comm _ _ (Ne.symm hif)
        rw [hset] at h1
        have hl' : (listed.setIfInBounds i true).getD f true = false := by rw [Array.getD_eq_getD_getElem?, Array.getElem?_setIfInBounds_ne hif, ← Array.getD_eq_getD_getElem?]; exact hl
        have ev : ∀ (a' : Act) u, (a'.put p.dst u).eval (.tmp t) = a'.eval (.tmp t) := by
          intro a' u
          cases hd : p.dst with
          | none => rfl
          | some y =>
            show (a'.put (some y) u).tmps.getD t undef = a'.tmps.getD t undef
            rw [Array.getD_eq_getD_getElem?, Array.getD_eq_getD_getElem?, Act.put_at, if_neg (by intro e; subst e; exact hpt hd)]
        have hcl' : ∀ (q : Nat) (A : List Nat), (listed.setIfInBounds i true)[q]? = some true → (ancAll l [])[q]? = some A → ∀ j ∈ A, (listed.setIfInBounds i true)[j]? = some true := by
          intro q A hq hA j hj
          have hold : listed[j]? = some true := by
            by_cases e : q = i
            · subst e; exact anc_listed hB hcl hi hA j hj
            · rw [Array.getElem?_setIfInBounds_ne (Ne.symm e)] at hq
              exact hcl q A hq hA j hj
          by_cases e : j = i
          · subst e
            rw [Array.getD_eq_getD_getElem?, hold] at hun
            cases hun
          · rw [Array.getElem?_setIfInBounds_ne (Ne.symm e)]; exact hold
        have next : ∀ u w', wpAny P .any l.toArray (onlyN Q) fuel ((listed.setIfInBounds i true).setIfInBounds f true) ((a.put (some d) (a.eval (.tmp t))).put p.dst u) w' → wpAny P .any l.toArray (onlyN Q) (fuel + 1) (listed.setIfInBounds i true) (a.put p.dst u) w' := by
          intro u w' hk
          refine ih _ _ _ (by simpa using hf) hl' hcl' ?_
          rw [ev, Act.put_comm a u _ (fun x hx => by intro e; exact hpd (by rw [hx, Option.some.inj e]))]
          exact hk
        split
        · rename_i hw
          rw [if_pos hw] at h1
          rcases h1 with h1 | h1
          · left
            unfold Oper.wp at h1 ⊢
            rw [execOp_sees p hns hsees] at h1
            generalize (execOp a.eval p).run P w = r at h1 ⊢
            cases r with
            | ok n w' =>
              cases n <;> simp only [Oper.upon] at h1 ⊢
              case value u => exact next u w' h1
              case skip => exact next undef w' h1
              case defer dd =>
                refine ih _ _ _ (by simpa using hf) hl' hcl' ?_
                have e0 : ({ a with defers := dd :: a.defers } : Act).eval (.tmp t) = a.eval (.tmp t) := rfl
                rw [ev, e0, Act.put_comm _ undef _ (fun x hx => by intro e; exact hpd (by rw [hx, Option.some.inj e]))]
                exact h1
              case enter g args =>
                refine h1.mono fun e w'' he => ?_
                cases e with
                | returned u => exact next u w'' he
                | panicked c => exact absurd he.1 (by simp)
                | outgrown => exact (onlyN_lets he).elim
              case row r args => exact h1.mono fun u w'' he => next u w'' he
            | halt x w' =>
              cases x <;> simp only [Oper.upon] at h1 ⊢
              case panic v => exact absurd h1.1 (by simp)
          · exact (onlyN_lets h1.2).elim
        · rename_i hw
          rw [if_neg hw] at h1
          exact next undef w h1

/-- What stands from place m on comes behind all that stands ahead of it, but for the operation f. -/
def tailOkF (l : List Oper) (m f : Nat) : Bool :=
  ((List.range l.length).all fun t => decide (t < m) || (List.range t).all fun j => ancB l t j || j == f) && Region.seqB .any l.toArray (l.length - m) m (Array.replicate m true ++ Array.replicate (l.length - m) false)

theorem wpAny_invF {l : List Oper} {S : List Keep} {m f : Nat} (hS : S.length = m) (hml : m ≤ l.length) (hB : ancOk l (ancAll l []) = true) (hT : tailOkF l m f = true) {F : World → Prop} (hF : ∀ w w', Ext w w' → F w → F w') {a : Act} {Q : Exit → Act → World → Prop}
    (steps : ∀ vs, invSteps P l F S vs l S 0 a)
    (post : ∀ (vs : Nat → Value) w', F w' → (∀ (j : Nat) (s : Keep), S[j]? = some s → s.J (vs j) w') → wpList P l.toArray Q (l.drop m) (lexN l (vsAt S vs) a m) w') :
    ∀ (fuel : Nat) (listed : Array Bool) (vs : Nat → Value) (c : Act) (w : World), listed.size = l.length → listed.getD f true = true → cntF m (fun i => listed.getD i true) = fuel → (∀ i, m ≤ i → i < l.length → listed.getD i true = false) →
      (∀ (i : Nat) (A : List Nat), listed[i]? = some true → (ancAll l [])[i]? = some A → ∀ j ∈ A, listed[j]? = some true) →
      Agrees l a vs (fun j => listed.getD j true) c → F w → (∀ (j : Nat) (s : Keep), listed[j]? = some true → S[j]? = some s → s.J (vs j) w) → wpAny P .any l.toArray Q (fuel + (l.length - m)) listed c w := by
  -- what is known is what is there
  have known : ∀ (listed : Array Bool) (vs : Nat → Value) (w : World), (∀ (j : Nat) (s : Keep), listed[j]? = some true → S[j]? = some s → s.J (vs j) w) → ∀ j, listed[j]? = some true → vs j = vsAt S vs j := by
    intro listed vs w hI j hj
    unfold vsAt
    cases hs : S[j]? with
    | none => rfl
    | some s => exact (s.at_eq (hI j s hj hs)).symm
  have truth : ∀ {listed : Array Bool} {j : Nat}, listed.size = l.length → j < l.length → listed.getD j true = true → listed[j]? = some true := by
    intro listed j hsz hj h
    have h2 : j < listed.size := by omega
    simp [h2] at h ⊢
    exact h
  simp only [tailOkF, Bool.and_eq_true, List.all_eq_true] at hT
  -- the end
  have fin : ∀ (listed : Array Bool) (vs : Nat → Value) (c : Act) (w : World), listed.size = l.length → (∀ i, i < m → listed.getD i true = true) → (∀ i, m ≤ i → i < l.length → listed.getD i true = false) → Agrees l a vs (fun j => listed.getD j true) c → F w →
      (∀ (j : Nat) (s : Keep), listed[j]? = some true → S[j]? = some s → s.J (vs j) w) → wpAny P .any l.toArray Q (l.length - m) listed c w := by
    intro listed vs c w hsz hall hrest hag hFw hI
    have kn := known listed vs w hI
    have e : c = lexN l (vsAt S vs) a m := by
      refine Agrees.unique (hag.congr (vs' := vsAt S vs) (L' := fun j => listed.getD j true) (fun _ _ _ => rfl) (fun j hj => ?_)) ((Agrees.lex hB a (vsAt S vs) m hml).congr (fun j o ho => ?_) (fun _ _ => rfl))
      · by_cases hlt : j < l.length
        · exact kn j (truth hsz hlt hj)
        · unfold vsAt
          rw [List.getElem?_eq_none (by omega)]
          rfl
      · have hj : j < l.length := (List.getElem?_eq_some_iff.1 ho).1
        by_cases hjm : j < m
        · simp only [hall j hjm]
          simpa using hjm
        · simp only [hrest j (by omega) hj]
          simpa using hjm
    have el : listed = Array.replicate m true ++ Array.replicate (l.length - m) false := by
      apply Array.ext
      · simp; omega
      · intro i h1 h2
        have hil : i < l.length := by omega
        by_cases him : i < m
        · have := truth hsz hil (hall i him)
          rw [Array.getElem?_eq_getElem h1] at this
          rw [Option.some.inj this]
          simp [him]
        · have := hrest i (by omega) hil
          simp [h1] at this
          rw [this]
          simp [Array.getElem_append, him]
    have hseq : Region.seqB .any l.toArray (l.drop m).length m listed = true := by
      rw [el, List.length_drop]; exact hT.2
    have := wpAny_of_seq (P := P) (Q' := Q) (ops := l.toArray) (l.drop m) m listed c w (fun j => by simp) hseq (by
      rw [e]
      refine post vs w hFw fun j s hs => hI j s ?_ hs
      have hj : j < S.length := (List.getElem?_eq_some_iff.1 hs).1
      exact truth hsz (by omega) (hall j (by omega)))
    rwa [List.length_drop] at this
  intro fuel
  induction fuel with
  | zero =>
    intro listed vs c w hsz hfd hcnt hrest hcl hag hFw hI
    rw [Nat.zero_add]
    exact fin listed vs c w hsz (cntF_zero hcnt) hrest hag hFw hI
  | succ fuel ih =>
    intro listed vs c w hsz hfd hcnt hrest hcl hag hFw hI
    rw [show fuel + 1 + (l.length - m) = (fuel + (l.length - m)) + 1 by omega]
    have hsome : ∃ i, i < m ∧ listed.getD i true = false := by
      apply Classical.byContradiction
      intro hno
      have : cntF m (fun i => listed.getD i true) = 0 := by
        have h0 : ∀ n, n ≤ m → cntF n (fun i => listed.getD i true) = 0 := by
          intro n
          induction n with
          | zero => intro _; rfl
          | succ n ihn =>
            intro hn
            have : listed.getD n true = true := by
              cases hv : listed.getD n true with
              | true => rfl
              | false => exact absurd ⟨n, by omega, hv⟩ hno
            simp only [cntF, ihn (by omega), this]
            simp
        exact h0 m (Nat.le_refl _)
      omega
    refine ⟨fun hr => ?_, fun i hi => ?_⟩
    · exfalso
      obtain ⟨i, him, hun⟩ := hsome
      have := all_listed hB hr i (by omega)
      rw [this] at hun; cases hun
    have hil : i < l.length := by simpa using ready_bounds hi
    obtain ⟨hun, o, ho, hafter⟩ := mem_ready.1 hi
    have hol : l[i]? = some o := by simpa using ho
    obtain ⟨A, hA, hok⟩ := ancOk_at hB hol
    simp only [ancOk1, Bool.and_eq_true, List.all_eq_true, Array.any_eq_true] at hok
    have hns : ∀ cs b, o.op ≠ .select cs b := by
      have := hB
      simp only [ancOk, Bool.and_eq_true] at this
      exact fun cs b => Region.noSelect_spec this.1.2 i o cs b ho
    -- its forerunners are done
    have hAl : ∀ j ∈ A, listed[j]? = some true := by
      intro j hj
      have h1 := (hok.1.2 j hj)
      obtain ⟨k, hk, he⟩ := h1.2
      simp only [Bool.or_eq_true] at he
      have hl := hafter _ (Array.getElem_mem hk) he.1
      have hl' : listed[(o.after[k]'hk).on]? = some true := by
        cases hx : listed[(o.after[k]'hk).on]? with
        | none => simp [Array.getD_eq_getD_getElem?, hx] at hl
        | some b => simp [Array.getD_eq_getD_getElem?, hx] at hl; rw [hl]
      rcases he.2 with he | he
      · have : (o.after[k]'hk).on = j := by simpa using he
        rw [← this]; exact hl'
      · cases hB' : (ancAll l [])[(o.after[k]'hk).on]? with
        | none => rw [hB'] at he; simp at he
        | some B => rw [hB'] at he; exact hcl _ B hl' hB' j (by simpa using he)
    have hAL : ∀ j ∈ A, listed.getD j true = true := fun j hj => by simp [Array.getD_eq_getD_getElem?, hAl j hj]
    have him : i < m := by
      rcases Nat.lt_or_ge i m with h | h
      · exact h
      · exfalso
        obtain ⟨k, hkm, hkun⟩ := hsome
        have h1 := hT.1 i (by simpa using hil)
        simp only [Bool.or_eq_true, decide_eq_true_eq, List.all_eq_true] at h1
        rcases h1 with h1 | h1
        · omega
        · have h2 := h1 k (by simp; omega)
          rcases h2 with h2 | h2
          · unfold ancB at h2
            rw [hA] at h2
            have h3 := hAL k (by simpa using h2)
            rw [h3] at hkun; cases hkun
          · have h3 : k = f := by simpa using h2
            subst h3
            rw [hfd] at hkun; cases hkun
    -- the step's own law
    have hs : ∃ s, S[i]? = some s := ⟨S[i]'(by omega), List.getElem?_eq_getElem (by omega)⟩
    obtain ⟨s, hs⟩ := hs
    have law := invSteps_at (l0 := l) l S 0 (fun j => by rw [Nat.zero_add]) (fun j => by rw [Nat.zero_add]) (steps vs) i o s hol hs w hFw (fun j hj => by
      have hjA : j ∈ A := by
        unfold ancB at hj
        rw [Nat.zero_add, hA] at hj
        simpa using hj
      have h1 := hAl j hjA
      cases hsj : S[j]? with
      | none => simp
      | some s' => simp only [Option.map_some, Option.getD_some]; exact hI j s' h1 hsj)
    rw [Nat.zero_add] at law
    have hag' : Agrees l a (vsAt S vs) (fun j => listed.getD j true) c := hag.congr (fun _ _ _ => rfl) (fun j hj => by
      by_cases hlt : j < l.length
      · exact known listed vs w hI j (truth hsz hlt hj)
      · unfold vsAt
        rw [List.getElem?_eq_none (by omega)]
        rfl)
    have hsees := Agrees.sees hB hol hA hag' ((Agrees.lex hB a (vsAt S vs) i (by omega))) hAL (fun j hj => by
      have := anc_lt hB i i (Nat.le_refl _) o A hol hA j hj
      simpa using this) (fun j B hjB hiB => by
      -- what waits for it isn't done
      cases hL : listed.getD j true with
      | false => rfl
      | true =>
        exfalso
        have hjl : j < l.length := by
          have h1 : (ancAll l []).length = l.length := by
            have := hB
            simp only [ancOk, Bool.and_eq_true] at this
            have h2 := this.1.1
            simpa using (beq_iff_eq.1 h2).symm
          have := (List.getElem?_eq_some_iff.1 hjB).1
          omega
        have h1 := hcl j B (truth hsz hjl hL) hjB i hiB
        simp [Array.getD_eq_getD_getElem?, h1] at hun) (fun j B hjB hiB => by
      have hjl : j < l.length := by
        have h1 : (ancAll l []).length = l.length := by
          have := hB
          simp only [ancOk, Bool.and_eq_true] at this
          have h2 := this.1.1
          simpa using (beq_iff_eq.1 h2).symm
        have := (List.getElem?_eq_some_iff.1 hjB).1
        omega
      have := anc_lt hB j j (Nat.le_refl _) l[j] B (List.getElem?_eq_getElem hjl) hjB i hiB
      simp; omega)
    -- what comes behind
    have next : ∀ v w', Ext w w' → s.J v w' → wpAny P .any l.toArray Q (fuel + (l.length - m)) (listed.setIfInBounds i true) (c.put o.dst v) w' := by
      intro v w' hext hJ
      have hset : ∀ j, j ≠ i → (listed.setIfInBounds i true)[j]? = listed[j]? := fun j hj => by rw [Array.getElem?_setIfInBounds_ne (Ne.symm hj)]
      have hseti : (listed.setIfInBounds i true)[i]? = some true := by simp [hsz, hil]
      refine ih (listed.setIfInBounds i true) (fun j => if j = i then v else vs j) (c.put o.dst v) w' (by simp [hsz]) ?fd ?_ (fun k hk hkl => by
        rw [Array.getD_eq_getD_getElem?, hset k (by omega), ← Array.getD_eq_getD_getElem?]; exact hrest k hk hkl) ?_ ?_ (hF _ _ hext hFw) ?_
      case fd =>
        by_cases hfi : f = i
        · rw [hfi]; simp [Array.getD_eq_getD_getElem?, hseti]
        · rw [Array.getD_eq_getD_getElem?, hset f hfi, ← Array.getD_eq_getD_getElem?]; exact hfd
      · have := cntF_set (n := m) (i := i) (L := fun j => listed.getD j true) (L' := fun j => (listed.setIfInBounds i true).getD j true) him hun
          (by simp [Array.getD_eq_getD_getElem?, hseti]) (fun j hj => by simp only [Array.getD_eq_getD_getElem?, hset j hj])
        omega
      · intro k B hk hB' j hj
        by_cases hki : k = i
        · subst hki
          rw [hA] at hB'; cases hB'
          by_cases hji : j = k
          · rw [hji]; exact hseti
          · rw [hset j hji]; exact hAl j hj
        · rw [hset k hki] at hk
          have := hcl k B hk hB' j hj
          by_cases hji : j = i
          · rw [hji]; exact hseti
          · rw [hset j hji]; exact this
      · exact Agrees.step hB hol v hag (fun j hj => by simp only [Array.getD_eq_getD_getElem?, hset j hj]) (by simp [Array.getD_eq_getD_getElem?, hseti]) (by simp) (fun j hj => by simp [hj])
      · intro j s' hj hs'
        by_cases hji : j = i
        · subst hji
          rw [hs] at hs'; cases hs'
          simpa using hJ
        · rw [hset j hji] at hj
          simp only [hji, if_false]
          exact s'.ok _ _ _ hext (hI j s' hj hs')
    unfold wpOp
    simp only [ho]
    rw [wanted_sees o hsees]
    split
    · rename_i hw
      rw [if_pos hw] at law
      refine .inl ?_
      unfold Oper.leavesAt at law
      unfold Oper.wp
      rw [execOp_sees o hns hsees]
      generalize (execOp (lexN l (vsAt S vs) a i).eval o).run P w = r at law ⊢
      cases r with
      | ok n w' =>
        cases n <;> simp only [Oper.leaves] at law <;> simp only [Oper.upon]
        case value u => exact next u w' law.1 law.2
        case skip => exact next undef w' law.1 law.2
        case enter f args =>
          refine law.2.mono fun e w'' he => ?_
          obtain ⟨v, rfl, hext, hJ⟩ := he
          exact next v w'' (law.1.trans hext) hJ
      | halt x w' => simp only [Oper.leaves] at law
    · rename_i hw
      rw [if_neg hw] at law
      exact next undef w (Ext.refl w) law

/-- An append whose run is known leaves what it leaves. -/
theorem leaves_append {I : Value → World → Prop} {o : Oper} {c : Act} {w w' : World} {s x : Operand} {t : TypeId} {v1 v2 v' : Value} (hg : o.guard = none) (ho : o.op = .call { callee := .builtin .append, args := #[s, x], argTypes := #[t, t] }) {ops : Array Oper} {els : Prop}
    (hr : (Builtin.append_ #[t, t] o.type #[v1, v2]).run P w = .ok v' w') (hE : Ext w w') (hJ : I v' w') (hs : c.eval s = v1) (hx : c.eval x = v2) :
    if Region.wanted o (yielded ops c.tmps) = true then o.leavesAt P I c w else els := by
  rw [if_pos (by unfold Region.wanted; rw [hg])]
  unfold Oper.leavesAt execOp
  simp only [ho, resolve, invoke, builtin, Sem.run_bind, Sem.run_pure, Result.andThen_ok, List.map_toArray, List.map_cons, List.map_nil, hs, hx, hr, Oper.leaves]
  exact ⟨hE, hJ⟩

/-- **ONE WALK IN THE TEXT's ORDER**, where all but the last operations make new memory at most, and the last ones come behind all of these but for one move. -/
theorem wp_region_hoist {id : Nat} {l : List Oper} {Q : Exit → Act → World → Prop} {a : Act} {w : World} (hm : P.follows .mixedOrders = true) (f d t : Nat) (m : Nat) (S : List Keep) (hS : S.length = m) (hml : m ≤ l.length) (hfm : f < m) (hh : hoistOk l f d t = true) (hB : ancOk l (ancAll l []) = true) (hT : tailOkF l m f = true)
    (hSf : ∀ s v w, S[f]? = some s → v = a.eval (.tmp t) → s.J v w)
    (steps : ∀ vs, invSteps P l (fun w' => Ext w w') S vs l S 0 a)
    (post : ∀ (vs : Nat → Value) w', Ext w w' → (∀ (j : Nat) (s : Keep), S[j]? = some s → s.J (vs j) w') → wpList P l.toArray (onlyN Q) (l.drop m) (lexGo vs l S 0 a) w') : (Code.region id l.toArray true).wp P Q a w := by
  refine Code.wp_mono (Q := onlyN Q) (fun e a w h => h.1 ▸ h.2) ?_
  refine wp_region_any hm ?_
  have post : ∀ (vs : Nat → Value) w', Ext w w' → (∀ (j : Nat) (s : Keep), S[j]? = some s → s.J (vs j) w') → wpList P l.toArray (onlyN Q) (l.drop m) (lexN l (vsAt S vs) a m) w' := fun vs w' h1 h2 => by
    have := post vs w' h1 h2
    rw [show lexGo vs l S 0 a = lexN l (vsAt S vs) a (0 + S.length) from lexGo_eq l S 0 (fun j => by rw [Nat.zero_add]) (fun j => by rw [Nat.zero_add]) (by omega), Nat.zero_add, hS] at this
    exact this
  have hfl : f < l.length := by omega
  have hz : ∀ j, j < l.length → (Array.replicate l.toArray.size false).getD j true = false := fun j hj => by simp [Array.getD_eq_getD_getElem?, hj]
  have hfd : f < (Array.replicate l.toArray.size false).size := by simpa using hfl
  have hz2 : ∀ j, j < l.length → j ≠ f → ((Array.replicate l.toArray.size false).setIfInBounds f true).getD j true = false := fun j hj hjf => by
    rw [Array.getD_eq_getD_getElem?, Array.getElem?_setIfInBounds_ne (Ne.symm hjf), ← Array.getD_eq_getD_getElem?]; exact hz j hj
  have hf2 : ((Array.replicate l.toArray.size false).setIfInBounds f true)[f]? = some true := by rw [Array.getElem?_setIfInBounds_self_of_lt hfd]
  have hc : cntF m (fun i => ((Array.replicate l.toArray.size false).setIfInBounds f true).getD i true) + 1 = m := by
    have h0 : cntF m (fun i => (Array.replicate l.toArray.size false).getD i true) = m := by
      have : ∀ n, n ≤ l.length → cntF n (fun i => (Array.replicate l.toArray.size false).getD i true) = n := by
        intro n
        induction n with
        | zero => intro _; rfl
        | succ n ih =>
          intro hn
          simp only [cntF, ih (by omega), hz n (by omega)]
          simp
      exact this m hml
    have := cntF_set (n := m) (i := f) (L := fun i => (Array.replicate l.toArray.size false).getD i true) (L' := fun i => ((Array.replicate l.toArray.size false).setIfInBounds f true).getD i true) hfm (hz f hfl)
      (by simp only [Array.getD_eq_getD_getElem?, hf2]; rfl) (fun j hj => by simp only [Array.getD_eq_getD_getElem?, Array.getElem?_setIfInBounds_ne (Ne.symm hj)])
    omega
  have hhh := hh
  cases ho : l[f]? with
  | none => simp [hoistOk, ho] at hh
  | some o =>
  simp only [hoistOk, ho, Bool.and_eq_true, List.all_eq_true] at hh
  obtain ⟨hop, hdst, haf, hgd, hdt, hall⟩ := hh
  have hdst : o.dst = some d := by simpa using hdst
  have hfin : l.toArray.size = (cntF m (fun i => ((Array.replicate l.toArray.size false).setIfInBounds f true).getD i true) + (l.length - m)) + 1 := by simp at hc ⊢; omega
  rw [hfin]
  refine wpAny_hoist hhh hB _ _ _ _ (by rw [← hfin]; exact hfd) (by rw [← hfin]; exact hz f hfl) (fun i A hi => by simp [Array.getElem?_replicate] at hi) ?_
  rw [← hfin]
  have hdf : dstOf l d = some f := by
    obtain ⟨A, hA, hok⟩ := ancOk_at hB ho
    simp only [ancOk1, Bool.and_eq_true] at hok
    have h1 := hok.1.1.1
    rw [hdst] at h1
    simpa using h1
  have hag0 : Agrees l a (fun _ => undef) (fun j => (Array.replicate l.toArray.size false).getD j true) a := by
    refine ⟨rfl, fun t => ?_⟩
    cases hj : dstOf l t with
    | none => rfl
    | some j =>
      obtain ⟨o, ho, _⟩ := dstOf_some hj
      have : j < l.length := (List.getElem?_eq_some_iff.1 ho).1
      simp [Array.getD_eq_getD_getElem?, this]
  have hag := Agrees.step hB ho (a.eval (.tmp t)) hag0 (vs' := fun j => if j = f then a.eval (.tmp t) else undef) (L' := fun j => ((Array.replicate l.toArray.size false).setIfInBounds f true).getD j true)
    (fun j hj => by simp only [Array.getD_eq_getD_getElem?, Array.getElem?_setIfInBounds_ne (Ne.symm hj)]) (by simp only [Array.getD_eq_getD_getElem?, hf2]; rfl) (by simp) (fun j hj => by simp [hj])
  rw [hdst] at hag
  refine wpAny_invF hS hml hB hT (F := fun w' => Ext w w') (fun _ _ h h' => h'.trans h) steps post _ _ (fun j => if j = f then a.eval (.tmp t) else undef) _ _ (by simp) (by simp only [Array.getD_eq_getD_getElem?, hf2]; rfl) rfl (fun i hi hil => hz2 i hil (by omega)) ?_ hag (Ext.drew w) ?_
  · intro i A hi hA j hj
    have hif : i = f := by
      apply Classical.byContradiction
      intro hne
      rw [Array.getElem?_setIfInBounds_ne (Ne.symm hne)] at hi
      simp [Array.getElem?_replicate] at hi
    subst hif
    obtain ⟨A', hA', hok⟩ := ancOk_at hB ho
    rw [hA] at hA'; cases hA'
    simp only [ancOk1, Bool.and_eq_true, List.all_eq_true, Array.any_eq_true] at hok
    obtain ⟨k, hk, he⟩ := (hok.1.2 j hj).2
    have := Array.all_eq_true_iff_forall_mem.1 haf _ (Array.getElem_mem hk)
    rw [he.1] at this
    cases this
  · intro j s hj hs
    have hjf : j = f := by
      apply Classical.byContradiction
      intro hne
      rw [Array.getElem?_setIfInBounds_ne (Ne.symm hne)] at hj
      simp [Array.getElem?_replicate] at hj
    subst hjf
    exact hSf s _ _ hs (by simp)
end
end Go
