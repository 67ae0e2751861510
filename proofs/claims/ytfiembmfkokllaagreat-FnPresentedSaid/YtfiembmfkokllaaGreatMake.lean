/- A region that draws its order: one call that may write what the region has made, one variable made, one store into it; all else makes new memory at most. No dump is imported. -/
import Derived.Test.YtfiembmfkokllaaGreatPkP
namespace Go
open Go.RowKit
section
variable {P : Program}

/-- what is left of a statement on a slot when memory may have turned -/
def KeepK (s : Keep) (v : Value) : Prop := ∀ x, s.val = some x → v = x
theorem KeepK.of {s : Keep} {v : Value} {w : World} (h : s.J v w) : KeepK s v := fun x hx => s.hval x hx v w h
theorem KeepK.at_eq {s : Keep} {v : Value} (h : KeepK s v) : s.at v = v := by
  unfold Keep.at
  cases hc : s.val with
  | none => rfl
  | some c => exact (h c hc).symm

/-- operation i may use all that is said of slot j -/
def mayUse (ops : List Oper) (c p i j : Nat) : Bool := (i == c || ancB ops c i) || ((i == p || ancB ops p i) && ancB ops j c)
/-- operation i comes behind c and no later than p -/
def amid (ops : List Oper) (c p i : Nat) : Bool := ancB ops i c && (i == p || ancB ops p i)

/-- Each operation in the text's order: the call at place c, the maker at place q, the store at place p. -/
def makeSteps (P : Program) (ops : List Oper) (w0 : World) (S : List Keep) (c q p : Nat) (M : Value → World → Prop) (Z X : Nat → World → Prop) (vs : Nat → Value) : List Oper → List Keep → Nat → Act → Prop
  | o :: rest, s :: srest, i, ct =>
    (∀ w', Ext w0 w' → (∀ j, ancB ops i j = true → ((S[j]?).map (fun s => ∃ w1, s.J (vs j) w1)).getD True) → (∀ j, ancB ops i j = true → mayUse ops c p i j = true → ((S[j]?).map (fun s => s.J (vs j) w')).getD True) → (amid ops c p i = true → M (vs c) w') → ∀ b, (i = p → vs q = .pointer (some ⟨b, 0, none⟩) ∧ Z b w') →
      if Region.wanted o (yielded ops.toArray ct.tmps) = true then Oper.gives P (fun v w'' => if i = c then Ext w0 w'' ∧ M v w'' ∧ (∀ b, Z b w' → Z b w'') else if i = p then Ext w0 w'' ∧ X b w'' else if i = q then Ext w' w'' ∧ PtrTo Z v w'' else Ext w' w'' ∧ s.J v w'') ((execOp ct.eval o).run P w')
      else i ≠ c ∧ i ≠ p ∧ i ≠ q ∧ s.J undef w') ∧
    makeSteps P ops w0 S c q p M Z X vs rest srest (i + 1) (ct.put o.dst (s.at (vs i)))
  | _, _, _, _ => True

theorem makeSteps_at {w0 : World} {S0 : List Keep} {c q p : Nat} {M : Value → World → Prop} {Z X : Nat → World → Prop} {vs : Nat → Value} {l0 : List Oper} {a : Act} : ∀ (l : List Oper) (S : List Keep) (k : Nat),
    (∀ j, l[j]? = l0[k + j]?) → (∀ j, S[j]? = S0[k + j]?) → makeSteps P l0 w0 S0 c q p M Z X vs l S k (lexN l0 (vsAt S0 vs) a k) → ∀ i o s, l[i]? = some o → S[i]? = some s →
    ∀ w', Ext w0 w' → (∀ j, ancB l0 (k + i) j = true → ((S0[j]?).map (fun s => ∃ w1, s.J (vs j) w1)).getD True) → (∀ j, ancB l0 (k + i) j = true → mayUse l0 c p (k + i) j = true → ((S0[j]?).map (fun s => s.J (vs j) w')).getD True) → (amid l0 c p (k + i) = true → M (vs c) w') → ∀ b, (k + i = p → vs q = .pointer (some ⟨b, 0, none⟩) ∧ Z b w') →
      if Region.wanted o (yielded l0.toArray (lexN l0 (vsAt S0 vs) a (k + i)).tmps) = true then Oper.gives P (fun v w'' => if k + i = c then Ext w0 w'' ∧ M v w'' ∧ (∀ b, Z b w' → Z b w'') else if k + i = p then Ext w0 w'' ∧ X b w'' else if k + i = q then Ext w' w'' ∧ PtrTo Z v w'' else Ext w' w'' ∧ s.J v w'') ((execOp (lexN l0 (vsAt S0 vs) a (k + i)).eval o).run P w')
      else k + i ≠ c ∧ k + i ≠ p ∧ k + i ≠ q ∧ s.J undef w'
  | [], _, _, _, _, _, i, o, s, hi, _ => by simp at hi
  | o' :: l, [], _, _, _, _, i, o, s, _, hs => by simp at hs
  | o' :: l, s' :: S, k, hl, hS, h, 0, o, s, hi, hs => by
    simp only [List.getElem?_cons_zero, Option.some.injEq] at hi hs
    subst hi; subst hs
    exact h.1
  | o' :: l, s' :: S, k, hl, hS, h, i + 1, o, s, hi, hs => by
    have h0 : l0[k]? = some o' := by simpa using (hl 0).symm
    have s0 : S0[k]? = some s' := by simpa using (hS 0).symm
    have := makeSteps_at l S (k + 1) (fun j => by have := hl (j + 1); simpa [Nat.add_assoc, Nat.add_comm 1 j] using this) (fun j => by have := hS (j + 1); simpa [Nat.add_assoc, Nat.add_comm 1 j] using this)
      (by simpa [lexN, h0, vsAt, s0] using h.2) i o s (by simpa using hi) (by simpa using hs)
    have e : k + 1 + i = k + (i + 1) := by omega
    rw [e] at this
    exact this

/-- One walk in the text's order serves every order. -/
theorem wp_region_make {id : Nat} {l : List Oper} {Q : Exit → Act → World → Prop} {a : Act} {w : World} (hm : P.follows .mixedOrders = true) (c q p : Nat) (M : Value → World → Prop) (Z X : Nat → World → Prop) (S : List Keep) (hS : S.length = l.length) (hB : ancOk l (ancAll l []) = true)
    (hpc : ancB l p c = true) (hpq : ancB l p q = true) (hcq : c ≠ q) (hp : p < l.length) (hM : ∀ v w w', Ext w w' → M v w → M v w') (hZ : ∀ b w w', Ext w w' → Z b w → Z b w') (hX : ∀ b w w', Ext w w' → X b w → X b w')
    (hck : S[c]? = some Keep.any) (hqk : S[q]? = some Keep.any) (hpk : S[p]? = some Keep.any)
    (steps : ∀ vs, makeSteps P l w S c q p M Z X vs l S 0 a)
    (post : ∀ (vs : Nat → Value) w', Ext w w' → ∀ b, vs q = .pointer (some ⟨b, 0, none⟩) → X b w' → Q .normal (lexGo vs l S 0 a) w') : (Code.region id l.toArray true).wp P Q a w := by
  refine wp_region_any hm ?_
  have self : ∀ j, j < l.length → ancB l j j = true → False := by
    intro j hj hjj
    unfold ancB at hjj
    cases hA : (ancAll l [])[j]? with
    | none => rw [hA] at hjj; simp at hjj
    | some A =>
      rw [hA] at hjj
      have := anc_lt hB j j (Nat.le_refl _) l[j] A (List.getElem?_eq_getElem hj) hA j (by simpa using hjj)
      omega
  have hcne : c ≠ p := fun e => self p hp (by rw [e] at hpc; exact hpc)
  have hqne : q ≠ p := fun e => self p hp (by rw [e] at hpq; exact hpq)
  have post : ∀ (vs : Nat → Value) w', Ext w w' → PtrTo X (vs q) w' → Q .normal (lexN l (vsAt S vs) a l.length) w' := fun vs w' h1 h3 => by
    obtain ⟨b, hb, hXb⟩ := h3
    have := post vs w' h1 b hb hXb
    rw [show lexGo vs l S 0 a = lexN l (vsAt S vs) a (0 + S.length) from lexGo_eq l S 0 (fun j => by rw [Nat.zero_add]) (fun j => by rw [Nat.zero_add]) (by omega), Nat.zero_add, hS] at this
    exact this
  have hz : ∀ j, j < l.length → (Array.replicate l.toArray.size false).getD j true = false := fun j hj => by simp [Array.getD_eq_getD_getElem?, hj]
  have hc : cntF l.length (fun i => (Array.replicate l.toArray.size false).getD i true) = l.length := by
    have : ∀ n, n ≤ l.length → cntF n (fun i => (Array.replicate l.toArray.size false).getD i true) = n := by
      intro n
      induction n with
      | zero => intro _; rfl
      | succ n ih =>
        intro hn
        simp only [cntF, ih (by omega), hz n (by omega)]
        simp
    exact this l.length (Nat.le_refl _)
  have hcl : c < l.length := by have := (List.getElem?_eq_some_iff.1 hck).1; omega
  have hql : q < l.length := by have := (List.getElem?_eq_some_iff.1 hqk).1; omega
  let St : (Nat → Bool) → (Nat → Value) → World → Prop := fun L vs w' => Ext w w' ∧ (∀ (j : Nat) (s : Keep), L j = true → S[j]? = some s → ∃ w1, s.J (vs j) w1) ∧
    (L p = false → ∀ (j : Nat) (s : Keep), L j = true → S[j]? = some s → (L c = false ∨ ancB l j c = true) → s.J (vs j) w') ∧
    (L c = true → L p = false → M (vs c) w') ∧ (L q = true → L p = false → PtrTo Z (vs q) w') ∧ (L p = true → L c = true ∧ PtrTo X (vs q) w')
  have := wpAny_st (P := P) (Q := Q) hS hB (a := a) St ?_ ?_ ?_ l.length (Array.replicate l.toArray.size false) (fun _ => undef) a { w with drawn := w.drawn + 1 } (by simp) hc ?_ ?_ ?_
  · exact this
  · -- known
    intro L vs w' hst j hj hL
    unfold vsAt
    have hs : S[j]? = some S[j] := List.getElem?_eq_getElem (by omega)
    rw [hs]
    exact (KeepK.at_eq (KeepK.of (hst.2.1 j _ hL hs).choose_spec)).symm
  · -- steps
    intro L vs w' i o hi hLi hanc hNl hst
    obtain ⟨hext, hK, hJ, hMc, hZq, hXq⟩ := hst
    have hPc : L p = true → L c = false → False := fun h1 h2 => by rw [(hXq h1).1] at h2; cases h2
    have hil : i < l.length := (List.getElem?_eq_some_iff.1 hi).1
    have hs : S[i]? = some S[i] := List.getElem?_eq_getElem (by omega)
    have hbx : ∃ b, i = p → vs q = .pointer (some ⟨b, 0, none⟩) ∧ Z b w' := by
      by_cases e : i = p
      · subst e
        obtain ⟨b, hb⟩ := hZq (hanc q hpq) hLi
        exact ⟨b, fun _ => hb⟩
      · exact ⟨0, fun h => absurd h e⟩
    obtain ⟨b, hbz⟩ := hbx
    have law := makeSteps_at (l0 := l) l S 0 (fun j => by rw [Nat.zero_add]) (fun j => by rw [Nat.zero_add]) (steps vs) i o S[i] hi hs w' hext
      (fun j hj => by
        rw [Nat.zero_add] at hj
        cases hsj : S[j]? with
        | none => simp
        | some s' => simp only [Option.map_some, Option.getD_some]; exact hK j s' (hanc j hj) hsj)
      (fun j hj hu => by
        rw [Nat.zero_add] at hj hu
        have h1 := hanc j hj
        cases hsj : S[j]? with
        | none => simp
        | some s' =>
          simp only [Option.map_some, Option.getD_some]
          simp only [mayUse, Bool.or_eq_true, Bool.and_eq_true, beq_iff_eq] at hu
          rcases hu with hu | ⟨hu, hjc⟩
          · have hLc : L c = false := by
              rcases hu with hu | hu
              · rw [← hu]; exact hLi
              · exact hNl c hu
            have hLp : L p = false := by
              cases hv : L p with
              | false => rfl
              | true =>
                rcases hu with hu | hu
                · rw [hu] at hNl
                  rw [hNl p hpc] at hv; cases hv
                · exfalso
                  exact hPc hv hLc
            exact hJ hLp j s' h1 hsj (.inl hLc)
          · have hLp : L p = false := by
              rcases hu with hu | hu
              · rw [← hu]; exact hLi
              · exact hNl p hu
            exact hJ hLp j s' h1 hsj (.inr hjc))
      (fun h => by
        rw [Nat.zero_add] at h
        simp only [amid, Bool.or_eq_true, Bool.and_eq_true, beq_iff_eq] at h
        refine hMc (hanc c h.1) ?_
        rcases h.2 with hu | hu
        · rw [← hu]; exact hLi
        · exact hNl p hu) b (fun e => by
        rw [Nat.zero_add] at e
        exact hbz e)
    rw [Nat.zero_add] at law
    -- the state behind
    have keep : ∀ v w'', (if i = c then Ext w w'' ∧ M v w'' ∧ (∀ b, Z b w' → Z b w'') else if i = p then Ext w w'' ∧ X b w'' else if i = q then Ext w' w'' ∧ PtrTo Z v w'' else Ext w' w'' ∧ S[i].J v w'') → St (fun j => if j = i then true else L j) (fun j => if j = i then v else vs j) w'' := by
      intro v w'' h
      have hK' : ∀ (j : Nat) (s : Keep), j ≠ i → (if j = i then true else L j) = true → S[j]? = some s → ∃ w1, s.J (if j = i then v else vs j) w1 := by
        intro j s hji hL hsj
        simp only [hji, if_false] at hL ⊢
        exact hK j s hL hsj
      have kany : ∀ {j : Nat} {s : Keep}, S[j]? = some Keep.any → S[j]? = some s → ∀ v, ∃ w1, s.J v w1 := fun h1 h2 v => by
        rw [h1] at h2; cases h2
        exact ⟨w, trivial⟩
      have jany : ∀ {j : Nat} {s : Keep}, S[j]? = some Keep.any → S[j]? = some s → ∀ v w, s.J v w := fun h1 h2 v w => by
        rw [h1] at h2; cases h2
        trivial
      by_cases hic : i = c
      · subst hic
        rw [if_pos rfl] at h
        have hpf : L p = false := hNl p hpc
        refine ⟨h.1, fun j s hL hsj => ?_, fun _ j s hL hsj hor => ?_, fun _ _ => by simpa using h.2.1, fun hL hLp => ?_, fun hL => ?_⟩
        · by_cases hji : j = i
          · subst hji; exact kany hck hsj _
          · exact hK' j s hji hL hsj
        · by_cases hji : j = i
          · subst hji; exact jany hck hsj _ _
          · rcases hor with ho | ho
            · simp at ho
            · have := hNl j ho
              simp only [hji, if_false] at hL
              rw [this] at hL; cases hL
        · simp only [Ne.symm hcq, if_false] at hL ⊢
          obtain ⟨b', h1, h2⟩ := hZq hL hpf
          exact ⟨b', h1, h.2.2 b' h2⟩
        · simp [Ne.symm hcne, hpf] at hL
      · rw [if_neg hic] at h
        by_cases hip : i = p
        · subst hip
          rw [if_pos rfl] at h
          refine ⟨h.1, fun j s hL hsj => ?_, fun hLp => by simp at hLp, fun _ hLp => by simp at hLp, fun _ hLp => by simp at hLp, fun _ => ⟨by simp [hanc c hpc], b, by simpa [hqne] using (hbz rfl).1, h.2⟩⟩
          by_cases hji : j = i
          · subst hji; exact kany hpk hsj _
          · exact hK' j s hji hL hsj
        · rw [if_neg hip] at h
          by_cases hiq : i = q
          · subst hiq
            rw [if_pos rfl] at h
            have hpf : L p = false := hNl p hpq
            refine ⟨hext.trans h.1, fun j s hL hsj => ?_, fun _ j s hL hsj hor => ?_, fun hL hLp => ?_, fun _ _ => by simpa using h.2, fun hL => ?_⟩
            · by_cases hji : j = i
              · subst hji; exact kany hqk hsj _
              · exact hK' j s hji hL hsj
            · by_cases hji : j = i
              · subst hji; exact jany hqk hsj _ _
              · simp only [hji, if_false] at hL ⊢
                refine s.ok _ _ _ h.1 (hJ hpf j s hL hsj ?_)
                simpa [hcq] using hor
            · simp only [hcq, if_false] at hL ⊢
              exact hM _ _ _ h.1 (hMc hL hpf)
            · simp [Ne.symm hip, hpf] at hL
          · rw [if_neg hiq] at h
            refine ⟨hext.trans h.1, fun j s hL hsj => ?_, fun hLp j s hL hsj hor => ?_, fun hL hLp => ?_, fun hL hLp => ?_, fun hL => ?_⟩
            · by_cases hji : j = i
              · subst hji
                rw [hs] at hsj; cases hsj
                exact ⟨w'', by simpa using h.2⟩
              · exact hK' j s hji hL hsj
            · by_cases hji : j = i
              · subst hji
                rw [hs] at hsj; cases hsj
                simpa using h.2
              · simp only [hji, Ne.symm hip, Ne.symm hic, if_false] at hL hLp hor ⊢
                exact s.ok _ _ _ h.1 (hJ hLp j s hL hsj hor)
            · simp only [Ne.symm hic, Ne.symm hip, if_false] at hL hLp ⊢
              exact hM _ _ _ h.1 (hMc hL hLp)
            · simp only [Ne.symm hiq, Ne.symm hip, if_false] at hL hLp ⊢
              exact (let ⟨b', h1, h2⟩ := hZq hL hLp; ⟨b', h1, hZ _ _ _ h.1 h2⟩)
            · simp only [Ne.symm hiq, Ne.symm hip, if_false] at hL ⊢
              exact (let ⟨h0, b', h1, h2⟩ := hXq hL; ⟨by simpa [Ne.symm hic] using h0, b', h1, hX _ _ _ h.1 h2⟩)
    split
    · rename_i hw
      rw [if_pos hw] at law
      generalize (execOp (lexN l (vsAt S vs) a i).eval o).run P w' = r at law ⊢
      cases r with
      | ok n w1 =>
        cases n <;> simp only [Oper.gives] at law ⊢
        case value u => exact keep u w1 law
        case skip => exact keep undef w1 law
        case enter f args =>
          refine law.mono fun e w2 he => ?_
          obtain ⟨v, he, hv⟩ := he
          exact ⟨v, he, keep v w2 hv⟩
      | halt x w1 => simp only [Oper.gives] at law
    · rename_i hw
      rw [if_neg hw] at law
      exact keep undef w' (by rw [if_neg law.1, if_neg law.2.1, if_neg law.2.2.1]; exact ⟨Ext.refl _, law.2.2.2⟩)
  · -- post
    intro vs w' hst
    exact post vs w' hst.1 (hst.2.2.2.2.2 rfl).2
  · intro i A hi
    simp [Array.getElem?_replicate] at hi
  · refine ⟨rfl, fun t => ?_⟩
    cases hj : dstOf l t with
    | none => rfl
    | some j =>
      obtain ⟨o, ho, _⟩ := dstOf_some hj
      have : j < l.length := (List.getElem?_eq_some_iff.1 ho).1
      simp [Array.getD_eq_getD_getElem?, this]
  · have none : ∀ {j}, j < l.length → (Array.replicate l.toArray.size false).getD j true = true → False := fun hj h => by rw [hz _ hj] at h; cases h
    have lt : ∀ {j : Nat} {s : Keep}, S[j]? = some s → j < l.length := fun h => by have := (List.getElem?_eq_some_iff.1 h).1; omega
    exact ⟨Ext.drew w, fun j s hj hs => (none (lt hs) hj).elim, fun _ j s hj hs _ => (none (lt hs) hj).elim, fun hL => (none hcl hL).elim, fun hL => (none hql hL).elim, fun hL => (none hp hL).elim⟩
end
end Go
