/- A region that draws its order: all its operations read, but for one call that may write, and one store behind it. No dump is imported. -/
import Derived.Test.YtgbbidlbdjbilaaPut
namespace Go
open Go.RowKit
section
variable {P : Program}

/-- Each operation in the text's order: the call at place c, the store at place p. -/
def callSteps (P : Program) (ops : List Oper) (S : List Keep) (c p : Nat) (A : World → Prop) (M X : Value → World → Prop) (vs : Nat → Value) : List Oper → List Keep → Nat → Act → Prop
  | o :: rest, s :: srest, i, ct =>
    (∀ w', (ancB ops c i = true → A w') → (i = c → A w') → (i = p → M (vs c) w') → (∀ j, ancB ops i j = true → ((S[j]?).map (fun s => s.J (vs j) w')).getD True) →
      if Region.wanted o (yielded ops.toArray ct.tmps) = true then Oper.gives P (fun v w'' => if i = c then M v w'' else if i = p then X (vs c) w'' else w'' = w' ∧ s.J v w'') ((execOp ct.eval o).run P w')
      else i ≠ c ∧ i ≠ p ∧ s.J undef w') ∧
    callSteps P ops S c p A M X vs rest srest (i + 1) (ct.put o.dst (s.at (vs i)))
  | _, _, _, _ => True

theorem callSteps_at {S0 : List Keep} {c p : Nat} {A : World → Prop} {M X : Value → World → Prop} {vs : Nat → Value} {l0 : List Oper} {a : Act} : ∀ (l : List Oper) (S : List Keep) (k : Nat),
    (∀ j, l[j]? = l0[k + j]?) → (∀ j, S[j]? = S0[k + j]?) → callSteps P l0 S0 c p A M X vs l S k (lexN l0 (vsAt S0 vs) a k) → ∀ i o s, l[i]? = some o → S[i]? = some s →
    ∀ w', (ancB l0 c (k + i) = true → A w') → (k + i = c → A w') → (k + i = p → M (vs c) w') → (∀ j, ancB l0 (k + i) j = true → ((S0[j]?).map (fun s => s.J (vs j) w')).getD True) →
      if Region.wanted o (yielded l0.toArray (lexN l0 (vsAt S0 vs) a (k + i)).tmps) = true then Oper.gives P (fun v w'' => if k + i = c then M v w'' else if k + i = p then X (vs c) w'' else w'' = w' ∧ s.J v w'') ((execOp (lexN l0 (vsAt S0 vs) a (k + i)).eval o).run P w')
      else k + i ≠ c ∧ k + i ≠ p ∧ s.J undef w'
  | [], _, _, _, _, _, i, o, s, hi, _ => by simp at hi
  | o' :: l, [], _, _, _, _, i, o, s, _, hs => by simp at hs
  | o' :: l, s' :: S, k, hl, hS, h, 0, o, s, hi, hs => by
    simp only [List.getElem?_cons_zero, Option.some.injEq] at hi hs
    subst hi; subst hs
    exact h.1
  | o' :: l, s' :: S, k, hl, hS, h, i + 1, o, s, hi, hs => by
    have h0 : l0[k]? = some o' := by simpa using (hl 0).symm
    have s0 : S0[k]? = some s' := by simpa using (hS 0).symm
    have := callSteps_at l S (k + 1) (fun j => by have := hl (j + 1); simpa [Nat.add_assoc, Nat.add_comm 1 j] using this) (fun j => by have := hS (j + 1); simpa [Nat.add_assoc, Nat.add_comm 1 j] using this)
      (by simpa [lexN, h0, vsAt, s0] using h.2) i o s (by simpa using hi) (by simpa using hs)
    have e : k + 1 + i = k + (i + 1) := by omega
    rw [e] at this
    exact this

/-- One walk in the text's order serves every order. -/
theorem wp_region_call {id : Nat} {l : List Oper} {Q : Exit → Act → World → Prop} {a : Act} {w : World} (hm : P.follows .mixedOrders = true) (c p : Nat) (A : World → Prop) (M X : Value → World → Prop) (S : List Keep) (hS : S.length = l.length) (hB : ancOk l (ancAll l []) = true)
    (hpc : ancB l p c = true) (hp : p < l.length) (hF : FreeAll S) (hck : S[c]? = some Keep.any) (hpk : S[p]? = some Keep.any) (hA0 : A w.drew)
    (steps : ∀ vs, callSteps P l S c p A M X vs l S 0 a)
    (post : ∀ (vs : Nat → Value) w', (∀ (j : Nat) (s : Keep), S[j]? = some s → s.J (vs j) w') → X (vs c) w' → Q .normal (lexGo vs l S 0 a) w') : (Code.region id l.toArray true).wp P Q a w := by
  refine wp_region_any hm ?_
  have hcne : c ≠ p := by
    intro e
    subst e
    unfold ancB at hpc
    cases hA : (ancAll l [])[c]? with
    | none => rw [hA] at hpc; simp at hpc
    | some A =>
      rw [hA] at hpc
      have := anc_lt hB c c (Nat.le_refl _) l[c] A (List.getElem?_eq_getElem hp) hA c (by simpa using hpc)
      omega
  have post : ∀ (vs : Nat → Value) w', (∀ (j : Nat) (s : Keep), S[j]? = some s → s.J (vs j) w') → X (vs c) w' → Q .normal (lexN l (vsAt S vs) a l.length) w' := fun vs w' h1 h2 => by
    have := post vs w' h1 h2
    rw [show lexGo vs l S 0 a = lexN l (vsAt S vs) a (0 + S.length) from lexGo_eq l S 0 (fun j => by rw [Nat.zero_add]) (fun j => by rw [Nat.zero_add]) (by omega), Nat.zero_add, hS] at this
    exact this
  have hz : ∀ j, j < l.length → (Array.replicate l.toArray.size false).getD j true = false := fun j hj => by simp [Array.getD_eq_getD_getElem?, hj]
  have hc : cntF l.length (fun i => (Array.replicate l.toArray.size false).getD i true) = l.length := by
    have : ∀ n, n ≤ l.length → cntF n (fun i => (Array.replicate l.toArray.size false).getD i true) = n := by
      intro n
      induction n with
      | zero => intro _; rfl
      | succ n ih =>
        intro hn
        simp only [cntF, ih (by omega), hz n (by omega)]
        simp
    exact this l.length (Nat.le_refl _)
  have hcl : c < l.length := by have := (List.getElem?_eq_some_iff.1 hck).1; omega
  let St : (Nat → Bool) → (Nat → Value) → World → Prop := fun L vs w' => (∀ (j : Nat) (s : Keep), L j = true → S[j]? = some s → s.J (vs j) w') ∧ (L c = false → A w') ∧ (L c = true → L p = false → M (vs c) w') ∧ (L p = true → L c = true ∧ X (vs c) w')
  have := wpAny_st (P := P) (Q := Q) hS hB (a := a) St ?_ ?_ ?_ l.length (Array.replicate l.toArray.size false) (fun _ => undef) a { w with drawn := w.drawn + 1 } (by simp) hc ?_ ?_ ?_
  · exact this
  · -- known
    intro L vs w' hst j hj hL
    unfold vsAt
    have hs : S[j]? = some S[j] := List.getElem?_eq_getElem (by omega)
    rw [hs]
    exact (S[j].at_eq (hst.1 j _ hL hs)).symm
  · -- steps
    intro L vs w' i o hi hLi hanc hNl hst
    obtain ⟨hJ, hAc, hMc, hXp⟩ := hst
    have hil : i < l.length := (List.getElem?_eq_some_iff.1 hi).1
    have hs : S[i]? = some S[i] := List.getElem?_eq_getElem (by omega)
    have law := callSteps_at (l0 := l) l S 0 (fun j => by rw [Nat.zero_add]) (fun j => by rw [Nat.zero_add]) (steps vs) i o S[i] hi hs w'
      (fun h => by rw [Nat.zero_add] at h; exact hAc (hNl c h)) (fun h => by rw [Nat.zero_add] at h; subst h; exact hAc hLi)
      (fun h => by rw [Nat.zero_add] at h; subst h; exact hMc (hanc c hpc) hLi) (fun j hj => by
        rw [Nat.zero_add] at hj
        have h1 := hanc j hj
        cases hsj : S[j]? with
        | none => simp
        | some s' => simp only [Option.map_some, Option.getD_some]; exact hJ j s' h1 hsj)
    rw [Nat.zero_add] at law
    -- the state behind
    have keep : ∀ v w'', (if i = c then M v w'' else if i = p then X (vs c) w'' else w'' = w' ∧ S[i].J v w'') → St (fun j => if j = i then true else L j) (fun j => if j = i then v else vs j) w'' := by
      intro v w'' h
      have hJ' : ∀ (j : Nat) (s : Keep), j ≠ i → (if j = i then true else L j) = true → S[j]? = some s → s.J (if j = i then v else vs j) w'' := by
        intro j s hji hL hsj
        simp only [hji, if_false] at hL ⊢
        exact hF.at j s hsj _ _ _ (hJ j s hL hsj)
      by_cases hic : i = c
      · subst hic
        rw [if_pos rfl] at h
        have hpf : L p = false := hNl p hpc
        refine ⟨fun j s hL hsj => ?_, fun hL => by simp at hL, fun _ _ => by simpa using h, fun hL => ?_⟩
        · by_cases hji : j = i
          · subst hji
            rw [hck] at hsj; cases hsj
            trivial
          · exact hJ' j s hji hL hsj
        · simp [Ne.symm hcne, hpf] at hL
      · rw [if_neg hic] at h
        by_cases hip : i = p
        · subst hip
          rw [if_pos rfl] at h
          have hcL : L c = true := hanc c hpc
          refine ⟨fun j s hL hsj => ?_, fun hL => ?_, fun _ hL => by simp at hL, fun _ => ⟨by simp [hcL], by simpa [hcne] using h⟩⟩
          · by_cases hji : j = i
            · subst hji
              rw [hpk] at hsj; cases hsj
              trivial
            · exact hJ' j s hji hL hsj
          · simp [hcne, hcL] at hL
        · rw [if_neg hip] at h
          obtain ⟨rfl, h⟩ := h
          refine ⟨fun j s hL hsj => ?_, fun hL => ?_, fun hL hLp => ?_, fun hL => ?_⟩
          · by_cases hji : j = i
            · subst hji
              rw [hs] at hsj; cases hsj
              simpa using h
            · exact hJ' j s hji hL hsj
          · simp only [Ne.symm hic, if_false] at hL
            exact hAc hL
          · simp only [Ne.symm hic, Ne.symm hip, if_false] at hL hLp ⊢
            exact hMc hL hLp
          · simp only [Ne.symm hic, Ne.symm hip, if_false] at hL ⊢
            exact hXp hL
    split
    · rename_i hw
      rw [if_pos hw] at law
      generalize (execOp (lexN l (vsAt S vs) a i).eval o).run P w' = r at law ⊢
      cases r with
      | ok n w1 =>
        cases n <;> simp only [Oper.gives] at law ⊢
        case value u => exact keep u w1 law
        case skip => exact keep undef w1 law
        case enter f args =>
          refine law.mono fun e w2 he => ?_
          obtain ⟨v, he, hv⟩ := he
          exact ⟨v, he, keep v w2 hv⟩
      | halt x w1 => simp only [Oper.gives] at law
    · rename_i hw
      rw [if_neg hw] at law
      exact keep undef w' (by rw [if_neg law.1, if_neg law.2.1]; exact ⟨rfl, law.2.2⟩)
  · -- post
    intro vs w' hst
    exact post vs w' (fun j s hs => hst.1 j s rfl hs) (hst.2.2.2 rfl).2
  · intro i A hi
    simp [Array.getElem?_replicate] at hi
  · refine ⟨rfl, fun t => ?_⟩
    cases hj : dstOf l t with
    | none => rfl
    | some j =>
      obtain ⟨o, ho, _⟩ := dstOf_some hj
      have : j < l.length := (List.getElem?_eq_some_iff.1 ho).1
      simp [Array.getD_eq_getD_getElem?, this]
  · refine ⟨fun j s hj hs => ?_, fun _ => hA0, fun hL => ?_, fun hL => ?_⟩
    · have : j < l.length := by have := (List.getElem?_eq_some_iff.1 hs).1; omega
      have hj' : (Array.replicate l.toArray.size false).getD j true = true := hj
      rw [hz j this] at hj'; cases hj'
    · have hj' : (Array.replicate l.toArray.size false).getD c true = true := hL
      rw [hz c hcl] at hj'; cases hj'
    · have hj' : (Array.replicate l.toArray.size false).getD p true = true := hL
      rw [hz p hp] at hj'; cases hj'
end
end Go
