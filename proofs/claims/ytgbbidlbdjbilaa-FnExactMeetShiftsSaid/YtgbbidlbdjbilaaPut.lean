/- A region that makes one variable and stores into it, late: its operations in any order. -/
import Derived.Test.YtgbbidlbdjbilaaPkC
namespace Go
open Go.RowKit
section
variable {P : Program}

/-- What an operation gives. -/
@[go_sem] def Oper.gives (P : Program) (I : Value → World → Prop) : Result Next → Prop
  | .ok (.value u) w' => I u w'
  | .ok .skip w' => I undef w'
  | .ok (.enter f args) w' => Calls P f args w' (fun e w'' => ∃ v, e = .returned v ∧ I v w'')
  | _ => False

theorem wpAny_st {l : List Oper} {S : List Keep} (hS : S.length = l.length) (hB : ancOk l (ancAll l []) = true) {a : Act} {Q : Exit → Act → World → Prop} (St : (Nat → Bool) → (Nat → Value) → World → Prop)
    (known : ∀ L vs w, St L vs w → ∀ j, j < l.length → L j = true → vs j = vsAt S vs j)
    (steps : ∀ L vs w i o, l[i]? = some o → L i = false → (∀ j, ancB l i j = true → L j = true) → (∀ j, ancB l j i = true → L j = false) → St L vs w →
      if Region.wanted o (yielded l.toArray (lexN l (vsAt S vs) a i).tmps) = true then Oper.gives P (fun v w' => St (fun j => if j = i then true else L j) (fun j => if j = i then v else vs j) w') ((execOp (lexN l (vsAt S vs) a i).eval o).run P w)
      else St (fun j => if j = i then true else L j) (fun j => if j = i then undef else vs j) w)
    (post : ∀ vs w, St (fun _ => true) vs w → Q .normal (lexN l (vsAt S vs) a l.length) w) :
    ∀ (fuel : Nat) (listed : Array Bool) (vs : Nat → Value) (c : Act) (w : World), listed.size = l.length → cntF l.length (fun i => listed.getD i true) = fuel →
      (∀ (i : Nat) (A : List Nat), listed[i]? = some true → (ancAll l [])[i]? = some A → ∀ j ∈ A, listed[j]? = some true) →
      Agrees l a vs (fun j => listed.getD j true) c → St (fun j => listed.getD j true) vs w → wpAny P .any l.toArray Q fuel listed c w := by
  have truth : ∀ {listed : Array Bool} {j : Nat}, listed.size = l.length → j < l.length → listed.getD j true = true → listed[j]? = some true := by
    intro listed j hsz hj h
    have h2 : j < listed.size := by omega
    simp [h2] at h ⊢
    exact h
  have hal : (ancAll l []).length = l.length := by
    have := hB
    simp only [ancOk, Bool.and_eq_true] at this
    have h2 := this.1.1
    simpa using (beq_iff_eq.1 h2).symm
  intro fuel
  induction fuel with
  | zero =>
    intro listed vs c w hsz hcnt hcl hag hSt
    have hall := cntF_zero hcnt
    have hL : (fun j => listed.getD j true) = fun _ => true := by
      funext j
      by_cases hj : j < l.length
      · exact hall j hj
      · simp [Array.getD_eq_getD_getElem?, Array.getElem?_eq_none (show listed.size ≤ j by omega)]
    have kn := known _ _ _ hSt
    rw [hL] at hSt hag
    have e : c = lexN l (vsAt S vs) a l.length := by
      refine Agrees.unique (hag.congr (vs' := vsAt S vs) (L' := fun _ => true) (fun _ _ _ => rfl) (fun j hj => ?_)) ((Agrees.lex hB a (vsAt S vs) l.length (Nat.le_refl _)).congr (fun j o ho => ?_) (fun _ _ => rfl))
      · by_cases hlt : j < l.length
        · exact kn j hlt (hall j hlt)
        · unfold vsAt
          rw [List.getElem?_eq_none (by omega)]
          rfl
      · have hj : j < l.length := (List.getElem?_eq_some_iff.1 ho).1
        simp [hj]
    have hQ := post vs w hSt
    rw [← e] at hQ
    refine ⟨?_, hQ⟩
    rw [List.eq_nil_iff_forall_not_mem]
    intro j hj
    have h1 := (mem_ready.1 hj).1
    have h2 : (fun j => listed.getD j true) j = true := by rw [hL]
    rw [show listed.getD j true = true from h2] at h1
    cases h1
  | succ fuel ih =>
    intro listed vs c w hsz hcnt hcl hag hSt
    have hsome : ∃ i, i < l.length ∧ listed.getD i true = false := by
      apply Classical.byContradiction
      intro hno
      have : cntF l.length (fun i => listed.getD i true) = 0 := by
        have h0 : ∀ n, n ≤ l.length → cntF n (fun i => listed.getD i true) = 0 := by
          intro n
          induction n with
          | zero => intro _; rfl
          | succ n ihn =>
            intro hn
            have : listed.getD n true = true := by
              cases hv : listed.getD n true with
              | true => rfl
              | false => exact absurd ⟨n, by omega, hv⟩ hno
            simp only [cntF, ihn (by omega), this]
            simp
        exact h0 l.length (Nat.le_refl _)
      omega
    refine ⟨fun hr => ?_, fun i hi => ?_⟩
    · exfalso
      obtain ⟨i, him, hun⟩ := hsome
      have := all_listed hB hr i him
      rw [this] at hun; cases hun
    have hil : i < l.length := by simpa using ready_bounds hi
    obtain ⟨hun, o, ho, hafter⟩ := mem_ready.1 hi
    have hol : l[i]? = some o := by simpa using ho
    obtain ⟨A, hA, hok⟩ := ancOk_at hB hol
    simp only [ancOk1, Bool.and_eq_true, List.all_eq_true, Array.any_eq_true] at hok
    have hns : ∀ cs b, o.op ≠ .select cs b := by
      have := hB
      simp only [ancOk, Bool.and_eq_true] at this
      exact fun cs b => Region.noSelect_spec this.1.2 i o cs b ho
    -- its forerunners are done
    have hAl : ∀ j ∈ A, listed[j]? = some true := by
      intro j hj
      have h1 := (hok.1.2 j hj)
      obtain ⟨k, hk, he⟩ := h1.2
      simp only [Bool.or_eq_true] at he
      have hl := hafter _ (Array.getElem_mem hk) he.1
      have hl' : listed[(o.after[k]'hk).on]? = some true := by
        cases hx : listed[(o.after[k]'hk).on]? with
        | none => simp [Array.getD_eq_getD_getElem?, hx] at hl
        | some b => simp [Array.getD_eq_getD_getElem?, hx] at hl; rw [hl]
      rcases he.2 with he | he
      · have : (o.after[k]'hk).on = j := by simpa using he
        rw [← this]; exact hl'
      · cases hB' : (ancAll l [])[(o.after[k]'hk).on]? with
        | none => rw [hB'] at he; simp at he
        | some B => rw [hB'] at he; exact hcl _ B hl' hB' j (by simpa using he)
    have hAL : ∀ j ∈ A, listed.getD j true = true := fun j hj => by simp [Array.getD_eq_getD_getElem?, hAl j hj]
    have hNl : ∀ j, ancB l j i = true → listed.getD j true = false := by
      intro j hj
      unfold ancB at hj
      cases hB' : (ancAll l [])[j]? with
      | none => rw [hB'] at hj; simp at hj
      | some B =>
        rw [hB'] at hj
        have hiB : i ∈ B := by simpa using hj
        have hjl : j < l.length := by
          have := (List.getElem?_eq_some_iff.1 hB').1
          omega
        cases hL : listed.getD j true with
        | false => rfl
        | true =>
          exfalso
          have h1 := hcl j B (truth hsz hjl hL) hB' i hiB
          simp [Array.getD_eq_getD_getElem?, h1] at hun
    have law := steps _ vs w i o hol hun (fun j hj => by
      have hjA : j ∈ A := by
        unfold ancB at hj
        rw [hA] at hj
        simpa using hj
      exact hAL j hjA) hNl hSt
    have hag' : Agrees l a (vsAt S vs) (fun j => listed.getD j true) c := hag.congr (fun _ _ _ => rfl) (fun j hj => by
      by_cases hlt : j < l.length
      · exact known _ vs w hSt j hlt hj
      · unfold vsAt
        rw [List.getElem?_eq_none (by omega)]
        rfl)
    have hsees := Agrees.sees hB hol hA hag' ((Agrees.lex hB a (vsAt S vs) i (by omega))) hAL (fun j hj => by
      have := anc_lt hB i i (Nat.le_refl _) o A hol hA j hj
      simpa using this) (fun j B hjB hiB => by
      -- what waits for it isn't done
      cases hL : listed.getD j true with
      | false => rfl
      | true =>
        exfalso
        have hjl : j < l.length := by
          have h1 : (ancAll l []).length = l.length := by
            have := hB
            simp only [ancOk, Bool.and_eq_true] at this
            have h2 := this.1.1
            simpa using (beq_iff_eq.1 h2).symm
          have := (List.getElem?_eq_some_iff.1 hjB).1
          omega
        have h1 := hcl j B (truth hsz hjl hL) hjB i hiB
        simp [Array.getD_eq_getD_getElem?, h1] at hun) (fun j B hjB hiB => by
      have hjl : j < l.length := by
        have h1 : (ancAll l []).length = l.length := by
          have := hB
          simp only [ancOk, Bool.and_eq_true] at this
          have h2 := this.1.1
          simpa using (beq_iff_eq.1 h2).symm
        have := (List.getElem?_eq_some_iff.1 hjB).1
        omega
      have := anc_lt hB j j (Nat.le_refl _) l[j] B (List.getElem?_eq_getElem hjl) hjB i hiB
      simp; omega)
    -- what comes behind
    have next : ∀ v w', St (fun j => if j = i then true else listed.getD j true) (fun j => if j = i then v else vs j) w' → wpAny P .any l.toArray Q fuel (listed.setIfInBounds i true) (c.put o.dst v) w' := by
      intro v w' hS'
      have hset : ∀ j, j ≠ i → (listed.setIfInBounds i true)[j]? = listed[j]? := fun j hj => by rw [Array.getElem?_setIfInBounds_ne (Ne.symm hj)]
      have hseti : (listed.setIfInBounds i true)[i]? = some true := by simp [hsz, hil]
      have hLe : (fun j => if j = i then true else listed.getD j true) = fun j => (listed.setIfInBounds i true).getD j true := by
        funext j
        by_cases hji : j = i
        · subst hji
          simp [Array.getD_eq_getD_getElem?, hseti]
        · simp only [hji, if_false, Array.getD_eq_getD_getElem?, hset j hji]
      rw [hLe] at hS'
      refine ih (listed.setIfInBounds i true) (fun j => if j = i then v else vs j) (c.put o.dst v) w' (by simp [hsz]) ?_ ?_ ?_ hS'
      · have := cntF_set (n := l.length) (i := i) (L := fun j => listed.getD j true) (L' := fun j => (listed.setIfInBounds i true).getD j true) hil hun
          (by simp [Array.getD_eq_getD_getElem?, hseti]) (fun j hj => by simp only [Array.getD_eq_getD_getElem?, hset j hj])
        omega
      · intro k B hk hB' j hj
        by_cases hki : k = i
        · subst hki
          rw [hA] at hB'; cases hB'
          by_cases hji : j = k
          · rw [hji]; exact hseti
          · rw [hset j hji]; exact hAl j hj
        · rw [hset k hki] at hk
          have := hcl k B hk hB' j hj
          by_cases hji : j = i
          · rw [hji]; exact hseti
          · rw [hset j hji]; exact this
      · exact Agrees.step hB hol v hag (fun j hj => by simp only [Array.getD_eq_getD_getElem?, hset j hj]) (by simp [Array.getD_eq_getD_getElem?, hseti]) (by simp) (fun j hj => by simp [hj])
    unfold wpOp
    simp only [ho]
    rw [wanted_sees o hsees]
    split
    · rename_i hw
      rw [if_pos hw] at law
      refine .inl ?_
      unfold Oper.wp
      rw [execOp_sees o hns hsees]
      generalize (execOp (lexN l (vsAt S vs) a i).eval o).run P w = r at law ⊢
      cases r with
      | ok n w' =>
        cases n <;> simp only [Oper.gives] at law <;> simp only [Oper.upon]
        case value u => exact next u w' law
        case skip => exact next undef w' law
        case enter f args =>
          refine law.mono fun e w'' he => ?_
          obtain ⟨v, rfl, hJ⟩ := he
          exact next v w'' hJ
      | halt x w' => simp only [Oper.gives] at law
    · rename_i hw
      rw [if_neg hw] at law
      exact next undef w law

/-- a pointer to a block of which Z is said -/
def PtrTo (Z : Nat → World → Prop) (v : Value) (w : World) : Prop := ∃ b, v = .pointer (some ⟨b, 0, none⟩) ∧ Z b w

/-- Each operation in the text's order: the maker at place q, the store at place p. -/
def putSteps (P : Program) (ops : List Oper) (w0 : World) (S : List Keep) (q p : Nat) (Z X : Nat → World → Prop) (vs : Nat → Value) : List Oper → List Keep → Nat → Act → Prop
  | o :: rest, s :: srest, i, c =>
    (∀ w', Ext w0 w' → (∀ j, ancB ops i j = true → ((S[j]?).map (fun s => s.J (vs j) w')).getD True) → ∀ b, (i = p → vs q = .pointer (some ⟨b, 0, none⟩) ∧ Z b w') →
      if Region.wanted o (yielded ops.toArray c.tmps) = true then Oper.gives P (fun v w'' => if i = p then Ext w0 w'' ∧ X b w'' else if i = q then Ext w' w'' ∧ PtrTo Z v w'' else Ext w' w'' ∧ s.J v w'') ((execOp c.eval o).run P w')
      else i ≠ p ∧ i ≠ q ∧ s.J undef w') ∧
    putSteps P ops w0 S q p Z X vs rest srest (i + 1) (c.put o.dst (s.at (vs i)))
  | _, _, _, _ => True

theorem putSteps_at {w0 : World} {S0 : List Keep} {q p : Nat} {Z X : Nat → World → Prop} {vs : Nat → Value} {l0 : List Oper} {a : Act} : ∀ (l : List Oper) (S : List Keep) (k : Nat),
    (∀ j, l[j]? = l0[k + j]?) → (∀ j, S[j]? = S0[k + j]?) → putSteps P l0 w0 S0 q p Z X vs l S k (lexN l0 (vsAt S0 vs) a k) → ∀ i o s, l[i]? = some o → S[i]? = some s →
    ∀ w', Ext w0 w' → (∀ j, ancB l0 (k + i) j = true → ((S0[j]?).map (fun s => s.J (vs j) w')).getD True) → ∀ b, (k + i = p → vs q = .pointer (some ⟨b, 0, none⟩) ∧ Z b w') →
      if Region.wanted o (yielded l0.toArray (lexN l0 (vsAt S0 vs) a (k + i)).tmps) = true then Oper.gives P (fun v w'' => if k + i = p then Ext w0 w'' ∧ X b w'' else if k + i = q then Ext w' w'' ∧ PtrTo Z v w'' else Ext w' w'' ∧ s.J v w'') ((execOp (lexN l0 (vsAt S0 vs) a (k + i)).eval o).run P w')
      else k + i ≠ p ∧ k + i ≠ q ∧ s.J undef w'
  | [], _, _, _, _, _, i, o, s, hi, _ => by simp at hi
  | o' :: l, [], _, _, _, _, i, o, s, _, hs => by simp at hs
  | o' :: l, s' :: S, k, hl, hS, h, 0, o, s, hi, hs => by
    simp only [List.getElem?_cons_zero, Option.some.injEq] at hi hs
    subst hi; subst hs
    exact h.1
  | o' :: l, s' :: S, k, hl, hS, h, i + 1, o, s, hi, hs => by
    have h0 : l0[k]? = some o' := by simpa using (hl 0).symm
    have s0 : S0[k]? = some s' := by simpa using (hS 0).symm
    have := putSteps_at l S (k + 1) (fun j => by have := hl (j + 1); simpa [Nat.add_assoc, Nat.add_comm 1 j] using this) (fun j => by have := hS (j + 1); simpa [Nat.add_assoc, Nat.add_comm 1 j] using this)
      (by simpa [lexN, h0, vsAt, s0] using h.2) i o s (by simpa using hi) (by simpa using hs)
    have e : k + 1 + i = k + (i + 1) := by omega
    rw [e] at this
    exact this

/-- What is said of the slots is said of no memory. -/
def FreeAll : List Keep → Prop
  | [] => True
  | s :: rest => (∀ v w w', s.J v w → s.J v w') ∧ FreeAll rest
theorem FreeAll.at : ∀ {S : List Keep}, FreeAll S → ∀ (j : Nat) s, S[j]? = some s → ∀ v w w', s.J v w → s.J v w'
  | [], _, j, s, hj => by simp at hj
  | s0 :: S, h, 0, s, hj => by
    simp only [List.getElem?_cons_zero, Option.some.injEq] at hj
    subst hj; exact h.1
  | s0 :: S, h, j + 1, s, hj => FreeAll.at h.2 j s (by simpa using hj)

/-- A region whose operation at q makes a variable and whose operation at p, behind q, stores into it: one walk in the text's order serves every order. -/
theorem wp_region_put {id : Nat} {l : List Oper} {Q : Exit → Act → World → Prop} {a : Act} {w : World} (hm : P.follows .mixedOrders = true) (q p : Nat) (Z X : Nat → World → Prop) (S : List Keep) (hS : S.length = l.length) (hB : ancOk l (ancAll l []) = true)
    (hqp : ancB l p q = true) (hp : p < l.length) (hZ : ∀ b w w', Ext w w' → Z b w → Z b w') (hX : ∀ b w w', Ext w w' → X b w → X b w') (hF : FreeAll S) (hq : S[q]? = some Keep.any) (hpk : S[p]? = some Keep.any)
    (steps : ∀ vs, putSteps P l w S q p Z X vs l S 0 a)
    (post : ∀ (vs : Nat → Value) w', Ext w w' → (∀ (j : Nat) (s : Keep), S[j]? = some s → s.J (vs j) w') → ∀ b, vs q = .pointer (some ⟨b, 0, none⟩) → X b w' → Q .normal (lexGo vs l S 0 a) w') : (Code.region id l.toArray true).wp P Q a w := by
  refine wp_region_any hm ?_
  have hqne : q ≠ p := by
    intro e
    subst e
    unfold ancB at hqp
    cases hA : (ancAll l [])[q]? with
    | none => rw [hA] at hqp; simp at hqp
    | some A =>
      rw [hA] at hqp
      have := anc_lt hB q q (Nat.le_refl _) l[q] A (List.getElem?_eq_getElem hp) hA q (by simpa using hqp)
      omega
  have post : ∀ (vs : Nat → Value) w', Ext w w' → (∀ (j : Nat) (s : Keep), S[j]? = some s → s.J (vs j) w') → PtrTo X (vs q) w' → Q .normal (lexN l (vsAt S vs) a l.length) w' := fun vs w' h1 h2 h3 => by
    obtain ⟨b, hb, hXb⟩ := h3
    have := post vs w' h1 h2 b hb hXb
    rw [show lexGo vs l S 0 a = lexN l (vsAt S vs) a (0 + S.length) from lexGo_eq l S 0 (fun j => by rw [Nat.zero_add]) (fun j => by rw [Nat.zero_add]) (by omega), Nat.zero_add, hS] at this
    exact this
  have hz : ∀ j, j < l.length → (Array.replicate l.toArray.size false).getD j true = false := fun j hj => by simp [Array.getD_eq_getD_getElem?, hj]
  have hc : cntF l.length (fun i => (Array.replicate l.toArray.size false).getD i true) = l.length := by
    have : ∀ n, n ≤ l.length → cntF n (fun i => (Array.replicate l.toArray.size false).getD i true) = n := by
      intro n
      induction n with
      | zero => intro _; rfl
      | succ n ih =>
        intro hn
        simp only [cntF, ih (by omega), hz n (by omega)]
        simp
    exact this l.length (Nat.le_refl _)
  let St : (Nat → Bool) → (Nat → Value) → World → Prop := fun L vs w' => Ext w w' ∧ (∀ (j : Nat) (s : Keep), L j = true → S[j]? = some s → s.J (vs j) w') ∧ (L q = true → L p = false → PtrTo Z (vs q) w') ∧ (L p = true → PtrTo X (vs q) w')
  have := wpAny_st (P := P) (Q := Q) hS hB (a := a) St ?_ ?_ ?_ l.length (Array.replicate l.toArray.size false) (fun _ => undef) a { w with drawn := w.drawn + 1 } (by simp) hc ?_ ?_ ?_
  · exact this
  · -- known
    intro L vs w' hst j hj hL
    unfold vsAt
    have hs : S[j]? = some S[j] := List.getElem?_eq_getElem (by omega)
    rw [hs]
    exact (S[j].at_eq (hst.2.1 j _ hL hs)).symm
  · -- steps
    intro L vs w' i o hi hLi hanc hNl hst
    obtain ⟨hext, hJ, hZq, hXq⟩ := hst
    have hil : i < l.length := (List.getElem?_eq_some_iff.1 hi).1
    have hs : S[i]? = some S[i] := List.getElem?_eq_getElem (by omega)
    have hbx : ∃ b, i = p → vs q = .pointer (some ⟨b, 0, none⟩) ∧ Z b w' := by
      by_cases e : i = p
      · subst e
        obtain ⟨b, hb⟩ := hZq (hanc q hqp) hLi
        exact ⟨b, fun _ => hb⟩
      · exact ⟨0, fun h => absurd h e⟩
    obtain ⟨b, hbz⟩ := hbx
    have law := putSteps_at (l0 := l) l S 0 (fun j => by rw [Nat.zero_add]) (fun j => by rw [Nat.zero_add]) (steps vs) i o S[i] hi hs w' hext (fun j hj => by
        rw [Nat.zero_add] at hj
        have h1 := hanc j hj
        cases hsj : S[j]? with
        | none => simp
        | some s' => simp only [Option.map_some, Option.getD_some]; exact hJ j s' h1 hsj) b (fun e => by
        rw [Nat.zero_add] at e
        exact hbz e)
    rw [Nat.zero_add] at law
    -- the state behind
    have keep : ∀ v w'', (if i = p then Ext w w'' ∧ X b w'' else if i = q then Ext w' w'' ∧ PtrTo Z v w'' else Ext w' w'' ∧ S[i].J v w'') → St (fun j => if j = i then true else L j) (fun j => if j = i then v else vs j) w'' := by
      intro v w'' h
      by_cases hip : i = p
      · subst hip
        rw [if_pos rfl] at h
        refine ⟨h.1, fun j s hL hsj => ?_, fun _ hLp => by simp at hLp, fun _ => ⟨b, by simpa [hqne] using (hbz rfl).1, h.2⟩⟩
        by_cases hji : j = i
        · subst hji
          rw [hpk] at hsj; cases hsj
          trivial
        · simp only [hji, if_false] at hL ⊢
          exact hF.at j s hsj _ _ _ (hJ j s hL hsj)
      · rw [if_neg hip] at h
        by_cases hiq : i = q
        · subst hiq
          rw [if_pos rfl] at h
          have hpf : L p = false := hNl p hqp
          refine ⟨hext.trans h.1, fun j s hL hsj => ?_, fun _ _ => by simpa using h.2, fun hLp => ?_⟩
          · by_cases hji : j = i
            · subst hji
              rw [hq] at hsj; cases hsj
              trivial
            · simp only [hji, if_false] at hL ⊢
              exact hF.at j s hsj _ _ _ (hJ j s hL hsj)
          · simp [Ne.symm hip, hpf] at hLp
        · rw [if_neg hiq] at h
          refine ⟨hext.trans h.1, fun j s hL hsj => ?_, fun hLq hLp => ?_, fun hLp => ?_⟩
          · by_cases hji : j = i
            · subst hji
              rw [hs] at hsj; cases hsj
              simpa using h.2
            · simp only [hji, if_false] at hL ⊢
              exact hF.at j s hsj _ _ _ (hJ j s hL hsj)
          · simp only [Ne.symm hiq, Ne.symm hip, if_false] at hLq hLp ⊢
            exact (let ⟨b', h1, h2⟩ := hZq hLq hLp; ⟨b', h1, hZ _ _ _ h.1 h2⟩)
          · simp only [Ne.symm hiq, Ne.symm hip, if_false] at hLp ⊢
            exact (let ⟨b', h1, h2⟩ := hXq hLp; ⟨b', h1, hX _ _ _ h.1 h2⟩)
    split
    · rename_i hw
      rw [if_pos hw] at law
      generalize (execOp (lexN l (vsAt S vs) a i).eval o).run P w' = r at law ⊢
      cases r with
      | ok n w1 =>
        cases n <;> simp only [Oper.gives] at law ⊢
        case value u => exact keep u w1 law
        case skip => exact keep undef w1 law
        case enter f args =>
          refine law.mono fun e w2 he => ?_
          obtain ⟨v, he, hv⟩ := he
          exact ⟨v, he, keep v w2 hv⟩
      | halt x w1 => simp only [Oper.gives] at law
    · rename_i hw
      rw [if_neg hw] at law
      exact keep undef w' (by rw [if_neg law.1, if_neg law.2.1]; exact ⟨Ext.refl _, law.2.2⟩)
  · -- post
    intro vs w' hst
    exact post vs w' hst.1 (fun j s hs => hst.2.1 j s rfl hs) (hst.2.2.2 rfl)
  · intro i A hi
    simp [Array.getElem?_replicate] at hi
  · refine ⟨rfl, fun t => ?_⟩
    cases hj : dstOf l t with
    | none => rfl
    | some j =>
      obtain ⟨o, ho, _⟩ := dstOf_some hj
      have : j < l.length := (List.getElem?_eq_some_iff.1 ho).1
      simp [Array.getD_eq_getD_getElem?, this]
  · refine ⟨Ext.drew w, fun j s hj hs => ?_, fun hqL => ?_, fun hpL => ?_⟩
    · have : j < l.length := by have := (List.getElem?_eq_some_iff.1 hs).1; omega
      have hj' : (Array.replicate l.toArray.size false).getD j true = true := hj
      rw [hz j this] at hj'; cases hj'
    · have hql : q < l.length := by have := (List.getElem?_eq_some_iff.1 hq).1; omega
      have hj' : (Array.replicate l.toArray.size false).getD q true = true := hqL
      rw [hz q hql] at hj'; cases hj'
    · have hj' : (Array.replicate l.toArray.size false).getD p true = true := hpL
      rw [hz p hp] at hj'; cases hj'
end
end Go
namespace Go.Proofs.Ytgbbidlbdjbilaa
open Go.RowKit Go.Cm
/-- a new block with these cells -/
def Fresh (n : Nat) (c : Array Value) (b : Nat) (w : World) : Prop := n ≤ b ∧ Blk w b c
theorem Fresh.ext {n : Nat} {c : Array Value} {b : Nat} {w w' : World} (hx : Ext w w') (h : Fresh n c b w) : Fresh n c b w' := ⟨h.1, h.2.ext hx⟩
theorem Fresh.new {n : Nat} {c : Array Value} {t : TypeId} {w : World} (h : n ≤ w.heap.size) : PtrTo (Fresh n c) (.pointer (some ⟨w.heap.size, 0, none⟩)) (w.alloc (.cells c t)) := ⟨_, rfl, h, Blk.mk' rfl⟩
end Go.Proofs.Ytgbbidlbdjbilaa
