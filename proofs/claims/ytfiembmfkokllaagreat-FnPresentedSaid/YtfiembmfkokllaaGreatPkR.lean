/- Several texts of mine in one: Rel, DrwA, DrwB. -/
import Derived.Test.YtfiembmfkokllaaGreatPkA
import Derived.Test.YtfiembmfkokllaaGreatPkC
import Derived.Test.YtfiembmfkokllaaGreatPkD
/- A region that asks the tape for its order, walked once, where each operation keeps a relation of worlds that is given: the laws of Tools with that relation in place of 'memory has only grown'. No dump is imported. -/
namespace Go
open Go.RowKit

/-- a relation of worlds that may be carried on, and that a draw keeps -/
structure Rel where
  r : World → World → Prop
  refl : ∀ w, r w w
  trans : ∀ {a b c}, r a b → r b c → r a c
  drew : ∀ w, r w w.drew
variable {R : Rel}

/-- What is said of a slot's value, and stays true while memory grows. -/
structure KeepR (R : Rel) where
  J : Value → World → Prop
  ok : ∀ v w w', R.r w w' → J v w → J v w'
  val : Option Value
  hval : ∀ c, val = some c → ∀ v w, J v w → v = c

@[go_sem] def KeepR.known (c : Value) : KeepR R := ⟨fun v _ => v = c, fun _ _ _ _ h => h, some c, fun _ e _ _ h => h.trans (Option.some.inj e)⟩
@[go_sem] def KeepR.any : (KeepR R) := ⟨fun _ _ => True, fun _ _ _ _ h => h, none, fun _ e => by cases e⟩
@[go_sem] def KeepR.such (J : Value → World → Prop) (ok : ∀ v w w', R.r w w' → J v w → J v w') : (KeepR R) := ⟨J, ok, none, fun _ e => by cases e⟩
/-- the value, where it is known beforehand -/
@[go_sem] def KeepR.at (s : (KeepR R)) (v : Value) : Value := s.val.getD v
theorem KeepR.at_eq (s : (KeepR R)) {v : Value} {w : World} (h : s.J v w) : s.at v = v := by
  unfold KeepR.at
  cases hc : s.val with
  | none => rfl
  | some c => exact (s.hval c hc v w h).symm


section
variable {P : Program}
/-- What an operation leaves behind: its value keeps what is said of it, and memory has only grown. -/
@[go_sem] def Oper.leavesR (R : Rel) (P : Program) (I : Value → World → Prop) (w : World) : Result Next → Prop
  | .ok (.value u) w' => R.r w w' ∧ I u w'
  | .ok .skip w' => R.r w w' ∧ I undef w'
  | .ok (.enter f args) w' => R.r w w' ∧ Calls P f args w' (fun e w'' => ∃ v, e = .returned v ∧ R.r w' w'' ∧ I v w'')
  | _ => False

@[go_sem] def Oper.leavesAtR (R : Rel) (P : Program) (I : Value → World → Prop) (o : Oper) (c : Act) (w : World) : Prop := Oper.leavesR R P I w ((execOp c.eval o).run P w)

/-- What of the slots is known, in a place. -/
def vsAtR (S : List (KeepR R)) (vs : Nat → Value) (j : Nat) : Value := ((S[j]?).map (fun s => s.at (vs j))).getD (vs j)

/-- A region's operations in the text's order, each with what is said of its value. -/
def invStepsR (P : Program) (ops : List Oper) (F : World → Prop) (S : List (KeepR R)) (vs : Nat → Value) : List Oper → List (KeepR R) → Nat → Act → Prop
  | o :: rest, s :: srest, i, c =>
    (∀ w', F w' → (∀ j, ancB ops i j = true → ((S[j]?).map (fun s => s.J (vs j) w')).getD True) → if Region.wanted o (yielded ops.toArray c.tmps) = true then Oper.leavesAtR R P s.J o c w' else s.J undef w') ∧
    invStepsR P ops F S vs rest srest (i + 1) (c.put o.dst (s.at (vs i)))
  | _, _, _, _ => True

theorem invSteps_atR {F : World → Prop} {S0 : List (KeepR R)} {vs : Nat → Value} {l0 : List Oper} {a : Act} : ∀ (l : List Oper) (S : List (KeepR R)) (k : Nat),
    (∀ j, l[j]? = l0[k + j]?) → (∀ j, S[j]? = S0[k + j]?) → invStepsR P l0 F S0 vs l S k (lexN l0 (vsAtR S0 vs) a k) → ∀ i o s, l[i]? = some o → S[i]? = some s →
    ∀ w', F w' → (∀ j, ancB l0 (k + i) j = true → ((S0[j]?).map (fun s => s.J (vs j) w')).getD True) →
      if Region.wanted o (yielded l0.toArray (lexN l0 (vsAtR S0 vs) a (k + i)).tmps) = true then Oper.leavesAtR R P s.J o (lexN l0 (vsAtR S0 vs) a (k + i)) w' else s.J undef w'
  | [], _, _, _, _, _, i, o, s, hi, _ => by simp at hi
  | o' :: l, [], _, _, _, _, i, o, s, _, hs => by simp at hs
  | o' :: l, s' :: S, k, hl, hS, h, 0, o, s, hi, hs => by
    simp only [List.getElem?_cons_zero, Option.some.injEq] at hi hs
    subst hi; subst hs
    exact h.1
  | o' :: l, s' :: S, k, hl, hS, h, i + 1, o, s, hi, hs => by
    have h0 : l0[k]? = some o' := by simpa using (hl 0).symm
    have s0 : S0[k]? = some s' := by simpa using (hS 0).symm
    have := invSteps_atR l S (k + 1) (fun j => by have := hl (j + 1); simpa [Nat.add_assoc, Nat.add_comm 1 j] using this) (fun j => by have := hS (j + 1); simpa [Nat.add_assoc, Nat.add_comm 1 j] using this)
      (by simpa [lexN, h0, vsAtR, s0] using h.2) i o s (by simpa using hi) (by simpa using hs)
    have e : k + 1 + i = k + (i + 1) := by omega
    rw [e] at this
    exact this

/-- The frame behind the region. -/
def lexGoR (vs : Nat → Value) : List Oper → List (KeepR R) → Nat → Act → Act
  | o :: rest, s :: srest, i, c => lexGoR vs rest srest (i + 1) (c.put o.dst (s.at (vs i)))
  | _, _, _, c => c
@[go_sem] theorem lexGo_consR (vs : Nat → Value) (o : Oper) (rest : List Oper) (s : (KeepR R)) (srest : List (KeepR R)) (i : Nat) (c : Act) : lexGoR vs (o :: rest) (s :: srest) i c = lexGoR vs rest srest (i + 1) (c.put o.dst (s.at (vs i))) := rfl
@[go_sem] theorem lexGo_nilR (vs : Nat → Value) (l : List Oper) (i : Nat) (c : Act) : lexGoR vs l ([] : List (KeepR R)) i c = c := by cases l <;> rfl

theorem lexGo_eqR {S0 : List (KeepR R)} {vs : Nat → Value} {l0 : List Oper} {a : Act} : ∀ (l : List Oper) (S : List (KeepR R)) (k : Nat),
    (∀ j, l[j]? = l0[k + j]?) → (∀ j, S[j]? = S0[k + j]?) → S.length ≤ l.length → lexGoR vs l S k (lexN l0 (vsAtR S0 vs) a k) = lexN l0 (vsAtR S0 vs) a (k + S.length)
  | l, [], _, _, _, _ => by rw [lexGo_nilR]; rfl
  | [], _ :: _, _, _, _, h => by simp at h
  | o :: l, s :: S, k, hl, hS, h => by
    have h0 : l0[k]? = some o := by simpa using (hl 0).symm
    have s0 : S0[k]? = some s := by simpa using (hS 0).symm
    have := lexGo_eqR (vs := vs) (l0 := l0) (S0 := S0) (a := a) l S (k + 1) (fun j => by have := hl (j + 1); simpa [Nat.add_assoc, Nat.add_comm 1 j] using this) (fun j => by have := hS (j + 1); simpa [Nat.add_assoc, Nat.add_comm 1 j] using this) (by simpa using h)
    have e : k + (s :: S).length = k + 1 + S.length := by simp; omega
    rw [e, ← this]
    simp [lexGoR, lexN, h0, vsAtR, s0]

theorem wpAny_invR {l : List Oper} {S : List (KeepR R)} {m : Nat} (hS : S.length = m) (hml : m ≤ l.length) (hB : ancOk l (ancAll l []) = true) (hT : tailOk l m = true) {F : World → Prop} (hF : ∀ w w', R.r w w' → F w → F w') {a : Act} {Q : Exit → Act → World → Prop}
    (steps : ∀ vs, invStepsR P l F S vs l S 0 a)
    (post : ∀ (vs : Nat → Value) w', F w' → (∀ (j : Nat) (s : (KeepR R)), S[j]? = some s → s.J (vs j) w') → wpList P l.toArray Q (l.drop m) (lexN l (vsAtR S vs) a m) w') :
    ∀ (fuel : Nat) (listed : Array Bool) (vs : Nat → Value) (c : Act) (w : World), listed.size = l.length → cntF m (fun i => listed.getD i true) = fuel → (∀ i, m ≤ i → i < l.length → listed.getD i true = false) →
      (∀ (i : Nat) (A : List Nat), listed[i]? = some true → (ancAll l [])[i]? = some A → ∀ j ∈ A, listed[j]? = some true) →
      Agrees l a vs (fun j => listed.getD j true) c → F w → (∀ (j : Nat) (s : (KeepR R)), listed[j]? = some true → S[j]? = some s → s.J (vs j) w) → wpAny P .any l.toArray Q (fuel + (l.length - m)) listed c w := by
  -- what is known is what is there
  have known : ∀ (listed : Array Bool) (vs : Nat → Value) (w : World), (∀ (j : Nat) (s : (KeepR R)), listed[j]? = some true → S[j]? = some s → s.J (vs j) w) → ∀ j, listed[j]? = some true → vs j = vsAtR S vs j := by
    intro listed vs w hI j hj
    unfold vsAtR
    cases hs : S[j]? with
    | none => rfl
    | some s => exact (s.at_eq (hI j s hj hs)).symm
  have truth : ∀ {listed : Array Bool} {j : Nat}, listed.size = l.length → j < l.length → listed.getD j true = true → listed[j]? = some true := by
    intro listed j hsz hj h
    have h2 : j < listed.size := by omega
    simp [h2] at h ⊢
    exact h
  simp only [tailOk, Bool.and_eq_true, List.all_eq_true] at hT
  -- the end
  have fin : ∀ (listed : Array Bool) (vs : Nat → Value) (c : Act) (w : World), listed.size = l.length → (∀ i, i < m → listed.getD i true = true) → (∀ i, m ≤ i → i < l.length → listed.getD i true = false) → Agrees l a vs (fun j => listed.getD j true) c → F w →
      (∀ (j : Nat) (s : (KeepR R)), listed[j]? = some true → S[j]? = some s → s.J (vs j) w) → wpAny P .any l.toArray Q (l.length - m) listed c w := by
    intro listed vs c w hsz hall hrest hag hFw hI
    have kn := known listed vs w hI
    have e : c = lexN l (vsAtR S vs) a m := by
      refine Agrees.unique (hag.congr (vs' := vsAtR S vs) (L' := fun j => listed.getD j true) (fun _ _ _ => rfl) (fun j hj => ?_)) ((Agrees.lex hB a (vsAtR S vs) m hml).congr (fun j o ho => ?_) (fun _ _ => rfl))
      · by_cases hlt : j < l.length
        · exact kn j (truth hsz hlt hj)
        · unfold vsAtR
          rw [List.getElem?_eq_none (by omega)]
          rfl
      · have hj : j < l.length := (List.getElem?_eq_some_iff.1 ho).1
        by_cases hjm : j < m
        · simp only [hall j hjm]
          simpa using hjm
        · simp only [hrest j (by omega) hj]
          simpa using hjm
    have el : listed = Array.replicate m true ++ Array.replicate (l.length - m) false := by
      apply Array.ext
      · simp; omega
      · intro i h1 h2
        have hil : i < l.length := by omega
        by_cases him : i < m
        · have := truth hsz hil (hall i him)
          rw [Array.getElem?_eq_getElem h1] at this
          rw [Option.some.inj this]
          simp [him]
        · have := hrest i (by omega) hil
          simp [h1] at this
          rw [this]
          simp [Array.getElem_append, him]
    have hseq : Region.seqB .any l.toArray (l.drop m).length m listed = true := by
      rw [el, List.length_drop]; exact hT.2
    have := wpAny_of_seq (P := P) (Q' := Q) (ops := l.toArray) (l.drop m) m listed c w (fun j => by simp) hseq (by
      rw [e]
      refine post vs w hFw fun j s hs => hI j s ?_ hs
      have hj : j < S.length := (List.getElem?_eq_some_iff.1 hs).1
      exact truth hsz (by omega) (hall j (by omega)))
    rwa [List.length_drop] at this
  intro fuel
  induction fuel with
  | zero =>
    intro listed vs c w hsz hcnt hrest hcl hag hFw hI
    rw [Nat.zero_add]
    exact fin listed vs c w hsz (cntF_zero hcnt) hrest hag hFw hI
  | succ fuel ih =>
    intro listed vs c w hsz hcnt hrest hcl hag hFw hI
    rw [show fuel + 1 + (l.length - m) = (fuel + (l.length - m)) + 1 by omega]
    have hsome : ∃ i, i < m ∧ listed.getD i true = false := by
      apply Classical.byContradiction
      intro hno
      have : cntF m (fun i => listed.getD i true) = 0 := by
        have h0 : ∀ n, n ≤ m → cntF n (fun i => listed.getD i true) = 0 := by
          intro n
          induction n with
          | zero => intro _; rfl
          | succ n ihn =>
            intro hn
            have : listed.getD n true = true := by
              cases hv : listed.getD n true with
              | true => rfl
              | false => exact absurd ⟨n, by omega, hv⟩ hno
            simp only [cntF, ihn (by omega), this]
            simp
        exact h0 m (Nat.le_refl _)
      omega
    refine ⟨fun hr => ?_, fun i hi => ?_⟩
    · exfalso
      obtain ⟨i, him, hun⟩ := hsome
      have := all_listed hB hr i (by omega)
      rw [this] at hun; cases hun
    have hil : i < l.length := by simpa using ready_bounds hi
    obtain ⟨hun, o, ho, hafter⟩ := mem_ready.1 hi
    have hol : l[i]? = some o := by simpa using ho
    obtain ⟨A, hA, hok⟩ := ancOk_at hB hol
    simp only [ancOk1, Bool.and_eq_true, List.all_eq_true, Array.any_eq_true] at hok
    have hns : ∀ cs b, o.op ≠ .select cs b := by
      have := hB
      simp only [ancOk, Bool.and_eq_true] at this
      exact fun cs b => Region.noSelect_spec this.1.2 i o cs b ho
    -- its forerunners are done
    have hAl : ∀ j ∈ A, listed[j]? = some true := by
      intro j hj
      have h1 := (hok.1.2 j hj)
      obtain ⟨k, hk, he⟩ := h1.2
      simp only [Bool.or_eq_true] at he
      have hl := hafter _ (Array.getElem_mem hk) he.1
      have hl' : listed[(o.after[k]'hk).on]? = some true := by
        cases hx : listed[(o.after[k]'hk).on]? with
        | none => simp [Array.getD_eq_getD_getElem?, hx] at hl
        | some b => simp [Array.getD_eq_getD_getElem?, hx] at hl; rw [hl]
      rcases he.2 with he | he
      · have : (o.after[k]'hk).on = j := by simpa using he
        rw [← this]; exact hl'
      · cases hB' : (ancAll l [])[(o.after[k]'hk).on]? with
        | none => rw [hB'] at he; simp at he
        | some B => rw [hB'] at he; exact hcl _ B hl' hB' j (by simpa using he)
    have hAL : ∀ j ∈ A, listed.getD j true = true := fun j hj => by simp [Array.getD_eq_getD_getElem?, hAl j hj]
    have him : i < m := by
      rcases Nat.lt_or_ge i m with h | h
      · exact h
      · exfalso
        obtain ⟨k, hkm, hkun⟩ := hsome
        have h1 := hT.1 i (by simpa using hil)
        simp only [Bool.or_eq_true, decide_eq_true_eq, List.all_eq_true] at h1
        rcases h1 with h1 | h1
        · omega
        · have h2 := h1 k (by simp; omega)
          unfold ancB at h2
          rw [hA] at h2
          have h3 := hAL k (by simpa using h2)
          rw [h3] at hkun; cases hkun
    -- the step's own law
    have hs : ∃ s, S[i]? = some s := ⟨S[i]'(by omega), List.getElem?_eq_getElem (by omega)⟩
    obtain ⟨s, hs⟩ := hs
    have law := invSteps_atR (l0 := l) l S 0 (fun j => by rw [Nat.zero_add]) (fun j => by rw [Nat.zero_add]) (steps vs) i o s hol hs w hFw (fun j hj => by
      have hjA : j ∈ A := by
        unfold ancB at hj
        rw [Nat.zero_add, hA] at hj
        simpa using hj
      have h1 := hAl j hjA
      cases hsj : S[j]? with
      | none => simp
      | some s' => simp only [Option.map_some, Option.getD_some]; exact hI j s' h1 hsj)
    rw [Nat.zero_add] at law
    have hag' : Agrees l a (vsAtR S vs) (fun j => listed.getD j true) c := hag.congr (fun _ _ _ => rfl) (fun j hj => by
      by_cases hlt : j < l.length
      · exact known listed vs w hI j (truth hsz hlt hj)
      · unfold vsAtR
        rw [List.getElem?_eq_none (by omega)]
        rfl)
    have hsees := Agrees.sees hB hol hA hag' ((Agrees.lex hB a (vsAtR S vs) i (by omega))) hAL (fun j hj => by
      have := anc_lt hB i i (Nat.le_refl _) o A hol hA j hj
      simpa using this) (fun j B hjB hiB => by
      -- what waits for it isn't done
      cases hL : listed.getD j true with
      | false => rfl
      | true =>
        exfalso
        have hjl : j < l.length := by
          have h1 : (ancAll l []).length = l.length := by
            have := hB
            simp only [ancOk, Bool.and_eq_true] at this
            have h2 := this.1.1
            simpa using (beq_iff_eq.1 h2).symm
          have := (List.getElem?_eq_some_iff.1 hjB).1
          omega
        have h1 := hcl j B (truth hsz hjl hL) hjB i hiB
        simp [Array.getD_eq_getD_getElem?, h1] at hun) (fun j B hjB hiB => by
      have hjl : j < l.length := by
        have h1 : (ancAll l []).length = l.length := by
          have := hB
          simp only [ancOk, Bool.and_eq_true] at this
          have h2 := this.1.1
          simpa using (beq_iff_eq.1 h2).symm
        have := (List.getElem?_eq_some_iff.1 hjB).1
        omega
      have := anc_lt hB j j (Nat.le_refl _) l[j] B (List.getElem?_eq_getElem hjl) hjB i hiB
      simp; omega)
    -- what comes behind
    have next : ∀ v w', R.r w w' → s.J v w' → wpAny P .any l.toArray Q (fuel + (l.length - m)) (listed.setIfInBounds i true) (c.put o.dst v) w' := by
      intro v w' hext hJ
      have hset : ∀ j, j ≠ i → (listed.setIfInBounds i true)[j]? = listed[j]? := fun j hj => by rw [Array.getElem?_setIfInBounds_ne (Ne.symm hj)]
      have hseti : (listed.setIfInBounds i true)[i]? = some true := by simp [hsz, hil]
      refine ih (listed.setIfInBounds i true) (fun j => if j = i then v else vs j) (c.put o.dst v) w' (by simp [hsz]) ?_ (fun k hk hkl => by
        rw [Array.getD_eq_getD_getElem?, hset k (by omega), ← Array.getD_eq_getD_getElem?]; exact hrest k hk hkl) ?_ ?_ (hF _ _ hext hFw) ?_
      · have := cntF_set (n := m) (i := i) (L := fun j => listed.getD j true) (L' := fun j => (listed.setIfInBounds i true).getD j true) him hun
          (by simp [Array.getD_eq_getD_getElem?, hseti]) (fun j hj => by simp only [Array.getD_eq_getD_getElem?, hset j hj])
        omega
      · intro k B hk hB' j hj
        by_cases hki : k = i
        · subst hki
          rw [hA] at hB'; cases hB'
          by_cases hji : j = k
          · rw [hji]; exact hseti
          · rw [hset j hji]; exact hAl j hj
        · rw [hset k hki] at hk
          have := hcl k B hk hB' j hj
          by_cases hji : j = i
          · rw [hji]; exact hseti
          · rw [hset j hji]; exact this
      · exact Agrees.step hB hol v hag (fun j hj => by simp only [Array.getD_eq_getD_getElem?, hset j hj]) (by simp [Array.getD_eq_getD_getElem?, hseti]) (by simp) (fun j hj => by simp [hj])
      · intro j s' hj hs'
        by_cases hji : j = i
        · subst hji
          rw [hs] at hs'; cases hs'
          simpa using hJ
        · rw [hset j hji] at hj
          simp only [hji, if_false]
          exact s'.ok _ _ _ hext (hI j s' hj hs')
    unfold wpOp
    simp only [ho]
    rw [wanted_sees o hsees]
    split
    · rename_i hw
      rw [if_pos hw] at law
      refine .inl ?_
      unfold Oper.leavesAtR at law
      unfold Oper.wp
      rw [execOp_sees o hns hsees]
      generalize (execOp (lexN l (vsAtR S vs) a i).eval o).run P w = r at law ⊢
      cases r with
      | ok n w' =>
        cases n <;> simp only [Oper.leavesR] at law <;> simp only [Oper.upon]
        case value u => exact next u w' law.1 law.2
        case skip => exact next undef w' law.1 law.2
        case enter f args =>
          refine law.2.mono fun e w'' he => ?_
          obtain ⟨v, rfl, hext, hJ⟩ := he
          exact next v w'' (R.trans law.1 hext) hJ
      | halt x w' => simp only [Oper.leavesR] at law
    · rename_i hw
      rw [if_neg hw] at law
      exact next undef w (R.refl w) law

/-- **ONE WALK IN THE TEXT's ORDER SERVES EVERY ORDER**, where all but the last operations make new memory at most and turn none, and the last ones come behind all of these: of each slot it is said beforehand what will be known of its value, whatever was done before it. -/
theorem wp_region_tailR {id : Nat} {l : List Oper} {Q : Exit → Act → World → Prop} {a : Act} {w : World} (hm : P.follows .mixedOrders = true) (m : Nat) (S : List (KeepR R)) (hS : S.length = m) (hml : m ≤ l.length) (hB : ancOk l (ancAll l []) = true) (hT : tailOk l m = true)
    (steps : ∀ vs, invStepsR P l (fun w' => R.r w w') S vs l S 0 a)
    (post : ∀ (vs : Nat → Value) w', R.r w w' → (∀ (j : Nat) (s : (KeepR R)), S[j]? = some s → s.J (vs j) w') → wpList P l.toArray Q (l.drop m) (lexGoR vs l S 0 a) w') : (Code.region id l.toArray true).wp P Q a w := by
  refine wp_region_any hm ?_
  have post : ∀ (vs : Nat → Value) w', R.r w w' → (∀ (j : Nat) (s : (KeepR R)), S[j]? = some s → s.J (vs j) w') → wpList P l.toArray Q (l.drop m) (lexN l (vsAtR S vs) a m) w' := fun vs w' h1 h2 => by
    have := post vs w' h1 h2
    rw [show lexGoR vs l S 0 a = lexN l (vsAtR S vs) a (0 + S.length) from lexGo_eqR l S 0 (fun j => by rw [Nat.zero_add]) (fun j => by rw [Nat.zero_add]) (by omega), Nat.zero_add, hS] at this
    exact this
  have hz : ∀ j, j < l.length → (Array.replicate l.toArray.size false).getD j true = false := fun j hj => by simp [Array.getD_eq_getD_getElem?, hj]
  have hc : cntF m (fun i => (Array.replicate l.toArray.size false).getD i true) = m := by
    have : ∀ n, n ≤ l.length → cntF n (fun i => (Array.replicate l.toArray.size false).getD i true) = n := by
      intro n
      induction n with
      | zero => intro _; rfl
      | succ n ih =>
        intro hn
        simp only [cntF, ih (by omega), hz n (by omega)]
        simp
    exact this m hml
  have := wpAny_invR hS hml hB hT (F := fun w' => R.r w w') (fun _ _ h h' => R.trans h' h) steps post m (Array.replicate l.toArray.size false) (fun _ => undef) a { w with drawn := w.drawn + 1 } (by simp) hc (fun i _ hi => hz i hi) ?_ ?_ (R.drew w) ?_
  · rw [show m + (l.length - m) = l.toArray.size by simp; omega] at this
    exact this
  · intro i A hi
    simp [Array.getElem?_replicate] at hi
  · refine ⟨rfl, fun t => ?_⟩
    cases hj : dstOf l t with
    | none => rfl
    | some j =>
      obtain ⟨o, ho, _⟩ := dstOf_some hj
      have : j < l.length := (List.getElem?_eq_some_iff.1 ho).1
      simp [Array.getD_eq_getD_getElem?, this]
  · intro j s hj
    simp [Array.getElem?_replicate] at hj

/-- .. where all operations are such. -/
theorem wp_region_invR {id : Nat} {l : List Oper} {Q : Exit → Act → World → Prop} {a : Act} {w : World} (hm : P.follows .mixedOrders = true) (S : List (KeepR R)) (hS : l.length = S.length) (hB : ancOk l (ancAll l []) = true)
    (steps : ∀ vs, invStepsR P l (fun w' => R.r w w') S vs l S 0 a)
    (post : ∀ (vs : Nat → Value) w', R.r w w' → (∀ (j : Nat) (s : (KeepR R)), S[j]? = some s → s.J (vs j) w') → Q .normal (lexGoR vs l S 0 a) w') : (Code.region id l.toArray true).wp P Q a w := by
  refine wp_region_tailR hm l.length S hS.symm (Nat.le_refl _) hB ?_ steps fun vs w' h1 h2 => ?_
  · have : Region.ready .any l.toArray (Array.replicate l.length true ++ Array.replicate (l.length - l.length) false) = [] := by
      rw [List.eq_nil_iff_forall_not_mem]
      intro j hj
      have h1 := ready_bounds hj
      have h2 := (mem_ready.1 hj).1
      simp at h1
      simp [Array.getD_eq_getD_getElem?, h1] at h2
    simp only [tailOk, Nat.sub_self, Region.seqB, Bool.and_eq_true, List.all_eq_true]
    refine ⟨fun t ht => ?_, by rw [Nat.sub_self] at this; rw [this]; rfl⟩
    have : t < l.length := by simpa using ht
    simp [this]
  · rw [List.drop_length]; exact post vs w' h1 h2
end
end Go

/- Contracts: the cursor of the draws: what is drawn is some value within bounds, and nothing but the cursor turns. -/
namespace Go
open Go.RowKit

theorem Reads.old {w w' : World} {v : Value} {fs : List Value} (h : Reads w v fs) (hb : ∀ k, k < w.heap.size → w'.heap[k]? = w.heap[k]?) : Reads w' v fs := by
  obtain ⟨a, cap, hv, h1, h2, h3⟩ := h
  refine ⟨a, cap, hv, h1, h2, fun i hi => ?_⟩
  obtain ⟨b, o, ha, hc⟩ := h3 i hi
  exact ⟨b, o, ha, (World.cell?_of_block (hb b (World.block_lt_of_cell? w _ hc))).trans hc⟩

end Go
namespace Go.Proofs.YtfiembmfkokllaaGreat
open Go.RowKit Go.Cm
/-- what lies in the cursor's block; the bytes lie below B -/
structure CurAt (B : Nat) (w : World) (z : Nat) (v : Value) (xs : List UInt8) (i : Nat) (h : Int) : Prop where
  low : B ≤ z
  blk : Blk w z #[v, .int .i64 i, .int .i64 h]
  le : i ≤ xs.length
  reads : ∀ w', (∀ k, k < B → w'.heap[k]? = w.heap[k]?) → ReadsB w' v xs
/-- a cursor -/
def Cur (B : Nat) (w : World) (z : Nat) : Prop := ∃ v xs i h, CurAt B w z v xs i h

theorem Cur.lt {B : Nat} {w : World} {z : Nat} (c : Cur B w z) : z < w.heap.size := by
  obtain ⟨v, xs, i, h, c⟩ := c
  exact c.blk.lt
theorem Cur.low {B : Nat} {w : World} {z : Nat} (c : Cur B w z) : B ≤ z := by
  obtain ⟨v, xs, i, h, c⟩ := c
  exact c.low
theorem Cur.kept {B : Nat} {w w' : World} {z : Nat} {row : Option Nat} (c : Cur B w z) (hg : w.grownBy w' row) (hne : row ≠ some z) (hr : ∀ k, row = some k → B ≤ k) : Cur B w' z := by
  have hlt := c.lt
  obtain ⟨v, xs, i, h, c⟩ := c
  exact ⟨v, xs, i, h, c.low, GB.blk hg c.blk hne, c.le, fun w'' hb => c.reads w'' fun k hk => (hb k hk).trans (hg.block k (by have := c.low; omega) fun e => by have := hr k e.symm; omega)⟩
theorem grown_ext {w w' : World} (h : Ext w w') (row : Option Nat) : w.grownBy w' row := ⟨h.os, h.tape, h.output, h.size, fun k hk _ => h.block k hk⟩
theorem Cur.ext {B : Nat} {w w' : World} {z : Nat} (c : Cur B w z) (hx : Ext w w') : Cur B w' z := c.kept (grown_ext hx none) (by simp) (fun k e => by cases e)
theorem grown_store (w : World) (a : Addr) (v : Value) : w.grownBy (w.setCell a v) (some a.block) :=
  ⟨rfl, rfl, rfl, by simp [World.setCell], fun k _ hne => Below.heap_setCell w a v k fun e => hne (by rw [e])⟩
theorem grown_trans {a b c : World} {row : Option Nat} (h : a.grownBy b row) (k : b.grownBy c row) : a.grownBy c row :=
  ⟨k.os.trans h.os, k.tape.trans h.tape, k.output.trans h.output, Nat.le_trans h.size k.size, fun i hi hne => (k.block i (Nat.lt_of_lt_of_le hi h.size) hne).trans (h.block i hi hne)⟩
theorem grown_past {a b c : World} {row row2 : Option Nat} (h : a.grownBy b row) (k : b.grownBy c row2) (hr : ∀ x, row2 = some x → a.heap.size ≤ x) : a.grownBy c row :=
  ⟨k.os.trans h.os, k.tape.trans h.tape, k.output.trans h.output, Nat.le_trans h.size k.size, fun i hi hne => (k.block i (Nat.lt_of_lt_of_le hi h.size) (fun e => by have := hr i e.symm; omega)).trans (h.block i hi hne)⟩

/-- the cursor alone has turned, and it is one still -/
structure Drawn (B z : Nat) (w w' : World) : Prop where
  low : B ≤ z
  lt : z < w.heap.size
  grown : w.grownBy w' (some z)
  cur : Cur B w' z
theorem Drawn.start {B z : Nat} {w : World} (c : Cur B w z) : Drawn B z w w := ⟨c.low, c.lt, World.grownBy.refl _ _, c⟩
theorem Drawn.trans {B z : Nat} {a b c : World} (h : Drawn B z a b) (k : Drawn B z b c) : Drawn B z a c := ⟨h.low, h.lt, grown_trans h.grown k.grown, k.cur⟩
theorem Drawn.ext {B z : Nat} {a b c : World} (h : Drawn B z a b) (hx : Ext b c) : Drawn B z a c := ⟨h.low, h.lt, grown_past h.grown (grown_ext hx none) (fun x e => by cases e), h.cur.ext hx⟩
theorem Drawn.alloc {B z : Nat} {a b : World} (h : Drawn B z a b) (o : Obj) : Drawn B z a (b.alloc o) := h.ext (Ext.alloc _ _)
theorem Drawn.store {B z : Nat} {a b : World} (h : Drawn B z a b) {p : Addr} (hp : a.heap.size ≤ p.block) (v : Value) : Drawn B z a (b.setCell p v) :=
  have hlt := h.lt
  have hlow := h.low
  ⟨h.low, h.lt, grown_past h.grown (grown_store b p v) (fun x e => by cases e; exact hp), h.cur.kept (grown_store b p v) (fun e => by have := Option.some.inj e; omega) (fun k e => by cases e; omega)⟩
theorem Drawn.cell {B z : Nat} {w w' : World} (h : Drawn B z w w') {a : Addr} {v : Value} (hc : w.cell? a = some v) (hne : a.block ≠ z) : w'.cell? a = some v := h.grown.cell hc (fun e => hne (Option.some.inj e))
theorem Drawn.blk {B z : Nat} {w w' : World} (h : Drawn B z w w') {b : Nat} {c : Array Value} (k : Blk w b c) (hne : b ≠ z) : Blk w' b c := GB.blk h.grown k (fun e => hne (Option.some.inj e).symm)
theorem Drawn.toExt {B z : Nat} {w0 w w' : World} (hx : Ext w0 w) (hz : w0.heap.size ≤ z) (h : Drawn B z w w') : Ext w0 w' :=
  Below.grown hx h.grown hx.size (fun k e => by cases e; exact hz)
theorem Drawn.reads {B z : Nat} {w w' : World} (h : Drawn B z w w') {v : Value} {fs : List Value} (hr : ∀ w', (∀ k, k < B → w'.heap[k]? = w.heap[k]?) → Reads w' v fs) : Reads w' v fs :=
  hr w' fun k hk => h.grown.block k (by have := h.low; have := h.lt; omega) (fun e => by have := Option.some.inj e; have := h.low; omega)
/-- .. as a relation for a region whose order is drawn -/
def drawRel (B z : Nat) : Rel where
  r w w' := Cur B w z → Drawn B z w w'
  refl _ c := Drawn.start c
  trans h k c := (h c).trans (k (h c).cur)
  drew w c := (Drawn.start c).ext (Ext.drew w)
@[go_sem] theorem drawRel_r (B z : Nat) (w w' : World) : (drawRel B z).r w w' = (Cur B w z → Drawn B z w w') := rfl

set_option maxRecDepth 100000 in
set_option maxHeartbeats 1000000 in
theorem spec_l1New_any (B : Nat) (v : Value) (xs : List UInt8) (w : World) (hB : B ≤ w.heap.size) (hold : ∀ w', (∀ k, k < B → w'.heap[k]? = w.heap[k]?) → ReadsB w' v xs) :
    Calls Tryz.prog 28 #[v] w fun e w' => ∃ z, e = .returned (.pointer (some ⟨z, 0, none⟩)) ∧ w.heap.size ≤ z ∧ Cur B w' z ∧ Ext w w' := by
  have h := hold w (fun _ _ => rfl)
  obtain ⟨a, c, hv, hl, hcm, hcell⟩ := h
  obtain ⟨n, hn⟩ : ∃ n, n = xs.length := ⟨_, rfl⟩
  rw [List.length_map, ← hn] at hv hl
  have hn' : n ≤ 9223372036854775807 := by unfold maxLen at hcm; omega
  have HC := Lib.hid (And.intro hold (And.intro hv hn))
  have hcl : ∀ i, i < n → ∃ b o y, a = some ⟨b, o, none⟩ ∧ w.cell? ⟨b, o + i, none⟩ = some (.int .u8 y) := fun i hi => by
    obtain ⟨b, o, h1, h2⟩ := hcell i (by rw [List.length_map]; omega)
    exact ⟨b, o, _, h1, by rw [h2, List.getElem_map]⟩
  have HL := Lib.hid hcl
  clear hold hcell hcl hn
  subst hv
  go_enter Tryz.func28, Tryz.ntmps28
  go_wp2
  go_loopw [3, 4] (fun x j wr => ∃ (y : Int) (k : Nat), x = .int .i64 y ∧ j = .int .i64 k ∧ k ≤ n ∧ wr = w) (fun _ j _ => n - (intOf j).toNat)
  case atStart => exact ⟨_, 0, rfl, rfl, by omega, rfl⟩
  case round =>
    obtain ⟨y, k, rfl, rfl, hk, rfl⟩ := hrel
    by_cases hlt : k < n
    · obtain ⟨b, o, u, rfl, hc⟩ := HL.out k hlt
      go_wp2
      · go_round
        case rel => exact ⟨_, k + 1, rfl, by go_num, by omega, trivial⟩
        case measure => simp [intOf]; omega
      · go_ret
        exact ⟨_, rfl, Nat.le_refl _, ⟨_, xs, 0, y, hB, by (repeat (first | (refine Blk.mk' ?_; (simp; done)) | apply Blk.old)), Nat.zero_le _, fun w'' hb => HC.out.1 w'' fun k hk => (hb k hk).trans ((Ext.alloc wr _).block k (Nat.lt_of_lt_of_le hk hB))⟩, Ext.alloc _ _⟩
    · go_wp2
      go_ret
      exact ⟨_, rfl, Nat.le_refl _, ⟨_, xs, 0, y, hB, by (repeat (first | (refine Blk.mk' ?_; (simp; done)) | apply Blk.old)), Nat.zero_le _, fun w'' hb => HC.out.1 w'' fun k hk => (hb k hk).trans ((Ext.alloc wr _).block k (Nat.lt_of_lt_of_le hk hB))⟩, Ext.alloc _ _⟩

theorem CurAt.store {B : Nat} {w : World} {z : Nat} {v : Value} {xs : List UInt8} {i : Nat} {h : Int} (c : CurAt B w z v xs i h) (h' : Int) : CurAt B (w.setCell ⟨z, 2, none⟩ (.int .i64 h')) z v xs i h' :=
  ⟨c.low, by have := c.blk.set (i := 2) (by simp) (.int .i64 h'); simpa using this, c.le, fun w' hb => c.reads w' fun k hk => (hb k hk).trans ((grown_store w ⟨z, 2, none⟩ _).block k (by have := c.low; have := c.blk.lt; omega) (fun e => by have h1 : k = z := Option.some.inj e; have := c.low; omega))⟩
theorem CurAt.step {B : Nat} {w : World} {z : Nat} {v : Value} {xs : List UInt8} {i : Nat} {h : Int} (c : CurAt B w z v xs i h) {i' : Nat} (hi : i' ≤ xs.length) : CurAt B (w.setCell ⟨z, 1, none⟩ (.int .i64 i')) z v xs i' h :=
  ⟨c.low, by have := c.blk.set (i := 1) (by simp) (.int .i64 i'); simpa using this, hi, fun w' hb => c.reads w' fun k hk => (hb k hk).trans ((grown_store w ⟨z, 1, none⟩ _).block k (by have := c.low; have := c.blk.lt; omega) (fun e => by have h1 : k = z := Option.some.inj e; have := c.low; omega))⟩

theorem CurAt.bytes {B : Nat} {w : World} {z : Nat} {v : Value} {xs : List UInt8} {i : Nat} {h : Int} (c : CurAt B w z v xs i h) : ∃ (a : Option Addr) (cap : Nat), v = .slice a xs.length cap ∧ xs.length ≤ cap ∧ cap ≤ maxLen ∧ ∀ k, k < xs.length → ∃ b o y, a = some ⟨b, o, none⟩ ∧ w.cell? ⟨b, o + k, none⟩ = some (.int .u8 y) := by
  obtain ⟨a, cap, hv, hl, hcm, hcell⟩ := c.reads w (fun _ _ => rfl)
  rw [List.length_map] at hv hl
  refine ⟨a, cap, hv, hl, hcm, fun k hk => ?_⟩
  obtain ⟨b, o, h1, h2⟩ := hcell k (by rw [List.length_map]; exact hk)
  exact ⟨b, o, _, h1, by rw [h2, List.getElem_map]⟩
theorem byte_and (x : Int) : ∃ y : Nat, y < 256 ∧ bits .and .i64 x 255 = (y : Int) := by
  have h : bits .and .i64 x 255 = x % 256 := by
    have h255 : (BitVec.ofInt 64 255).toNat = 2 ^ 8 - 1 := by decide
    have key : (BitVec.ofInt 64 x &&& BitVec.ofInt 64 255).toNat = (x % ((2 ^ 64 : Nat) : Int)).toNat % 2 ^ 8 := by
      rw [BitVec.toNat_and, BitVec.toNat_ofInt, h255, Nat.and_two_pow_sub_one_eq_mod]
    show IntKind.i64.wrap ((BitVec.ofInt 64 x &&& BitVec.ofInt 64 255).toNat : Nat) = x % 256
    rw [key, IntKind.wrap_i64]
    omega
  exact ⟨(x % 256).toNat, by omega, by omega⟩

set_option maxRecDepth 100000 in
set_option maxHeartbeats 1000000 in
theorem spec_l1Byte_any (B z : Nat) (w : World) (c : Cur B w z) :
    Calls Tryz.prog 68 #[.pointer (some ⟨z, 0, none⟩)] w fun e w' => ∃ y : Nat, e = .returned (.int .i64 y) ∧ y < 256 ∧ Drawn B z w w' := by
  have hd := Drawn.start c
  obtain ⟨v, xs, i, h, c⟩ := c
  have hle := c.le
  obtain ⟨n, hn⟩ : ∃ n, n = xs.length := ⟨_, rfl⟩
  obtain ⟨a, cap, hv, hl, hcm, -⟩ := c.bytes
  rw [← hn] at hv hl hle
  have hn' : n ≤ 9223372036854775807 := by unfold maxLen at hcm; omega
  subst hv
  obtain ⟨c0, c1, c2, f0, f1, f2⟩ := c.blk.c3
  go_enter Tryz.func68, Tryz.ntmps68
  go_wp2
  have hd1 : Drawn B z w (w.setCell ⟨z, 2, none⟩ (.int .i64 (wrap64 (wrap64 (h * 6364136223846793005) + 1442695040888963407)))) := ⟨hd.low, hd.lt, grown_store w ⟨z, 2, none⟩ _, _, _, _, _, c.store _⟩
  replace c := c.store (wrap64 (wrap64 (h * 6364136223846793005) + 1442695040888963407))
  generalize w.setCell ⟨z, 2, none⟩ (.int .i64 (wrap64 (wrap64 (h * 6364136223846793005) + 1442695040888963407))) = w1 at hd1 c ⊢
  generalize wrap64 (wrap64 (h * 6364136223846793005) + 1442695040888963407) = h1 at c ⊢
  have hcl : ∀ k, k < n → ∃ b o y, a = some ⟨b, o, none⟩ ∧ w1.cell? ⟨b, o + k, none⟩ = some (.int .u8 y) := fun k hk => by
    obtain ⟨a', cap', h0, -, -, h1⟩ := c.bytes
    obtain ⟨rfl, -, -⟩ : a = a' ∧ n = xs.length ∧ cap = cap' := by simpa using h0
    exact h1 k (by omega)
  have HN := Lib.hid hn
  clear c0 c1 c2 f0 f1 f2 hd hn
  obtain ⟨c0, c1, c2, f0, f1, f2⟩ := c.blk.c3
  go_region
  obtain ⟨x0, hx0, hx1⟩ := byte_and (bits .xor .i64 (h1 / 8589934592) (h1 / 35184372088832))
  rw [hx1]
  clear hx1
  by_cases hlt : i < n
  · obtain ⟨b, o, y, rfl, hcb⟩ := hcl i hlt
    go_wp2
    go_region
    go_wp2
    go_region
    go_wp2
    obtain ⟨x1, hx1, e1⟩ := byte_and (wrap64 (x0 + wrap64 y))
    rw [e1]
    have hd2 : Drawn B z w1 (w1.setCell ⟨z, 1, none⟩ (.int .i64 ((i + 1 : Nat) : Int))) := ⟨hd1.low, Nat.lt_of_lt_of_le hd1.lt hd1.grown.size, grown_store w1 ⟨z, 1, none⟩ _, _, _, _, _, c.step (by have := HN.out; omega)⟩
    rw [show ((i + 1 : Nat) : Int) = (i : Int) + 1 by omega] at hd2
    go_ret
    exact ⟨x1, rfl, hx1, (((hd1.trans hd2).ext (Ext.drew _)).ext (Ext.drew _)).ext (Ext.drew _)⟩
  · go_wp2
    go_region
    go_wp2
    go_ret
    exact ⟨x0, rfl, hx0, (hd1.ext (Ext.drew _)).ext (Ext.drew _)⟩

theorem mod_fit (a : Nat) (n : Int) (h : 0 < n) (ha : a < 4294967296) : ∃ y : Nat, (a : Int) % n = (y : Int) ∧ (y : Int) < n ∧ y < 4294967296 := by
  have h1 := Int.emod_nonneg (a : Int) (show n ≠ 0 by omega)
  have h2 := Int.emod_lt_of_pos (a : Int) h
  have h3 : (a : Int) % n ≤ a := by
    have h4 := Int.mul_ediv_add_emod (a : Int) n
    have h5 := Int.mul_nonneg (show 0 ≤ n by omega) (Int.ediv_nonneg (show (0 : Int) ≤ a by omega) (show 0 ≤ n by omega))
    omega
  exact ⟨((a : Int) % n).toNat, by omega, by omega, by omega⟩
set_option maxHeartbeats 1000000 in
theorem spec_l1Below_any (B z : Nat) (n : Int) (w : World) (c : Cur B w z) :
    Calls Tryz.prog 30 #[.pointer (some ⟨z, 0, none⟩), .int .i64 n] w fun e w' => ∃ y : Nat, e = .returned (.int .i64 y) ∧ (0 < n → (y : Int) < n) ∧ y < 4294967296 ∧ Drawn B z w w' := by
  have hd := Drawn.start c
  by_cases h0 : n ≤ 0
  · go_enter Tryz.func30, Tryz.ntmps30
    go_wp2
    go_ret
    exact ⟨0, rfl, fun h => by omega, by omega, hd⟩
  by_cases h1 : n ≤ 256
  · have hnz : ¬ n = 0 := by omega
    go_enter Tryz.func30, Tryz.ntmps30
    go_wp2_with fail
    with_reducible refine (spec_l1Byte_any B z _ hd.cur).mono ?_
    rintro e w1 ⟨y, rfl, hy, hd1⟩
    go_wp2
    obtain ⟨r, hr, hr1, hr2⟩ := mod_fit y n (by omega) (by omega)
    rw [hr]
    go_ret
    exact ⟨r, rfl, fun _ => hr1, hr2, hd1⟩
  · go_enter Tryz.func30, Tryz.ntmps30
    go_wp2_with fail
    with_reducible refine (spec_l1Byte_any B z _ hd.cur).mono ?_
    rintro e w1 ⟨y1, rfl, hy1, hd1⟩
    replace hd := hd.trans hd1
    clear hd1
    go_wp2_with fail
    with_reducible refine (spec_l1Byte_any B z _ hd.cur).mono ?_
    rintro e w2 ⟨y2, rfl, hy2, hd2⟩
    replace hd := hd.trans hd2
    clear hd2
    go_wp2_with fail
    with_reducible refine (spec_l1Byte_any B z _ hd.cur).mono ?_
    rintro e w3 ⟨y3, rfl, hy3, hd3⟩
    replace hd := hd.trans hd3
    clear hd3
    go_wp2_with fail
    with_reducible refine (spec_l1Byte_any B z _ hd.cur).mono ?_
    rintro e w4 ⟨y4, rfl, hy4, hd4⟩
    replace hd := hd.trans hd4
    clear hd4
    go_wp2
    obtain ⟨r, hr, hr1, hr2⟩ := mod_fit (y1 * 16777216 + y2 * 65536 + y3 * 256 + y4) n (by omega) (by omega)
    rw [show ((y1 * 16777216 + y2 * 65536 + y3 * 256 + y4 : Nat) : Int) = (y1 : Int) * 16777216 + (y2 : Int) * 65536 + (y3 : Int) * 256 + (y4 : Int) by omega] at hr
    rw [hr]
    go_ret
    exact ⟨r, rfl, fun _ => hr1, hr2, hd⟩

set_option maxHeartbeats 1000000 in
theorem spec_l1Once_any (B z : Nat) (n : Int) (w : World) (c : Cur B w z) :
    Calls Tryz.prog 82 #[.pointer (some ⟨z, 0, none⟩), .int .i64 n] w fun e w' => ∃ y : Bool, e = .returned (.bool y) ∧ Drawn B z w w' := by
  go_enter Tryz.func82, Tryz.ntmps82
  go_wp2_with fail
  with_reducible refine (spec_l1Below_any B z n _ c).mono ?_
  rintro e w1 ⟨y, rfl, -, -, hd⟩
  go_wp2
  go_ret
  exact ⟨_, rfl, hd⟩

theorem reads_cells {w : World} {v : Value} {fs : List Value} (h : Reads w v fs) : ∃ a cap, v = .slice a fs.length cap ∧ fs.length ≤ 9223372036854775807 ∧ ∀ i, (hi : i < fs.length) → ∃ b o, a = some ⟨b, o, none⟩ ∧ w.cell? ⟨b, o + i, none⟩ = some fs[i] := by
  obtain ⟨a, cap, hv, hl, hm, hc⟩ := h
  exact ⟨a, cap, hv, by unfold maxLen at hm; omega, hc⟩

set_option maxHeartbeats 1000000 in
theorem spec_l1Pick_any (B z : Nat) (v : Value) (l : List ByteArray) (w : World) (c : Cur B w z) (h0 : 0 < l.length) (hr : ∀ w', Drawn B z w w' → Reads w' v (l.map Value.string)) :
    Calls Tryz.prog 67 #[.pointer (some ⟨z, 0, none⟩), v] w fun e w' => ∃ x, e = .returned (Value.string x) ∧ x ∈ l ∧ Drawn B z w w' := by
  have hd := Drawn.start c
  obtain ⟨a, cap, hv, hl, -⟩ := reads_cells (hr w hd)
  obtain ⟨n, hn⟩ : ∃ n, n = l.length := ⟨_, rfl⟩
  rw [List.length_map, ← hn] at hl hv
  rw [← hn] at h0
  subst hv
  have HR := Lib.hid (And.intro hr hn)
  clear hr hn
  go_enter Tryz.func67, Tryz.ntmps67
  go_wp2_with fail
  with_reducible refine (spec_l1Below_any B z n _ c).mono ?_
  rintro e w1 ⟨y, rfl, hy, -, hd1⟩
  have hyn : y < n := by have := hy (by omega); omega
  obtain ⟨a', cap', h0', -, hc⟩ := reads_cells (HR.out.1 w1 hd1)
  obtain ⟨b, o, h1, h2⟩ := hc y (by rw [List.length_map, ← HR.out.2]; exact hyn)
  rw [List.getElem_map] at h2
  obtain ⟨x, hx⟩ : ∃ x, x = l[y]'(by rw [← HR.out.2]; exact hyn) := ⟨_, rfl⟩
  rw [← hx] at h2
  have hmem : x ∈ l := by rw [hx]; exact List.getElem_mem _
  obtain rfl : a = a' := by simp at h0'; exact h0'.1
  subst h1
  clear hx hy hc h0'
  go_wp2
  go_ret
  exact ⟨x, rfl, hmem, hd1⟩
set_option maxHeartbeats 1000000 in
theorem spec_l1PickInt_any (B z : Nat) (v : Value) (l : List Int) (w : World) (c : Cur B w z) (h0 : 0 < l.length) (hr : ∀ w', Drawn B z w w' → Reads w' v (l.map (Value.int .i64))) :
    Calls Tryz.prog 31 #[.pointer (some ⟨z, 0, none⟩), v] w fun e w' => ∃ x, e = .returned ((Value.int .i64) x) ∧ x ∈ l ∧ Drawn B z w w' := by
  have hd := Drawn.start c
  obtain ⟨a, cap, hv, hl, -⟩ := reads_cells (hr w hd)
  obtain ⟨n, hn⟩ : ∃ n, n = l.length := ⟨_, rfl⟩
  rw [List.length_map, ← hn] at hl hv
  rw [← hn] at h0
  subst hv
  have HR := Lib.hid (And.intro hr hn)
  clear hr hn
  go_enter Tryz.func31, Tryz.ntmps31
  go_wp2_with fail
  with_reducible refine (spec_l1Below_any B z n _ c).mono ?_
  rintro e w1 ⟨y, rfl, hy, -, hd1⟩
  have hyn : y < n := by have := hy (by omega); omega
  obtain ⟨a', cap', h0', -, hc⟩ := reads_cells (HR.out.1 w1 hd1)
  obtain ⟨b, o, h1, h2⟩ := hc y (by rw [List.length_map, ← HR.out.2]; exact hyn)
  rw [List.getElem_map] at h2
  obtain ⟨x, hx⟩ : ∃ x, x = l[y]'(by rw [← HR.out.2]; exact hyn) := ⟨_, rfl⟩
  rw [← hx] at h2
  have hmem : x ∈ l := by rw [hx]; exact List.getElem_mem _
  obtain rfl : a = a' := by simp at h0'; exact h0'.1
  subst h1
  clear hx hy hc h0'
  go_wp2
  go_ret
  exact ⟨x, rfl, hmem, hd1⟩
end Go.Proofs.YtfiembmfkokllaaGreat

/- Contracts: words drawn: some words of bounded length. -/
namespace Go.Proofs.YtfiembmfkokllaaGreat
open Go.RowKit Go.Cm

/-- the texts of a literal -/
def strsOf : List Value → Option (List ByteArray)
  | [] => some []
  | .string s :: r => (strsOf r).map (s :: ·)
  | _ :: _ => none
theorem strsOf_map : ∀ {c : List Value} {l : List ByteArray}, strsOf c = some l → c = l.map .string
  | [], l, h => by cases h; rfl
  | .string s :: r, l, h => by
    unfold strsOf at h
    cases hr : strsOf r with
    | none => rw [hr] at h; cases h
    | some l' => rw [hr] at h; cases h; rw [strsOf_map hr]; rfl
/-- the numbers of a literal -/
def intsOf : List Value → Option (List Int)
  | [] => some []
  | .int .i64 s :: r => (intsOf r).map (s :: ·)
  | _ :: _ => none
theorem intsOf_map : ∀ {c : List Value} {l : List Int}, intsOf c = some l → c = l.map (.int .i64)
  | [], l, h => by cases h; rfl
  | .int .i64 s :: r, l, h => by
    unfold intsOf at h
    cases hr : intsOf r with
    | none => rw [hr] at h; cases h
    | some l' => rw [hr] at h; cases h; rw [intsOf_map hr]; rfl

/-- a literal reads as it was laid, whatever is drawn -/
theorem lit_reads {B z : Nat} {w : World} {t : TypeId} {cs : Array Value} {l : List Value} {n cap : Nat} (c : Cur B w z) (h : cs.toList = l) (hn : n ≤ l.length) (hc : n ≤ cap) (hm : cap ≤ 1000) :
    ∀ w', Drawn B z (w.alloc (.cells cs t)) w' → Reads w' (.slice (some ⟨w.heap.size, 0, none⟩) n cap) (l.take n) := by
  intro w' hd
  have hl : (l.take n).length = n := by rw [List.length_take]; omega
  refine ⟨some ⟨w.heap.size, 0, none⟩, cap, by rw [hl], by omega, by unfold maxLen; omega, fun i hi => ⟨_, _, rfl, hd.cell (cell_new rfl ?_) (by have := c.lt; dsimp only; omega)⟩⟩
  rw [Nat.zero_add, ← Array.getElem?_toList, h, List.getElem_take, List.getElem?_eq_getElem]
theorem pick_lit {B z : Nat} {w : World} {t : TypeId} {cs : Array Value} {l : List ByteArray} {n cap : Nat} (c : Cur B w z) (h : strsOf cs.toList = some l) (hn0 : 0 < n) (hn : n ≤ l.length) (hc : n ≤ cap) (hm : cap ≤ 1000) (hs : l.all (fun x => decide (x.size ≤ 64)) = true) :
    Calls Tryz.prog 67 #[.pointer (some ⟨z, 0, none⟩), .slice (some ⟨w.heap.size, 0, none⟩) n cap] (w.alloc (.cells cs t)) fun e w' => ∃ x, e = .returned (.string x) ∧ x.size ≤ 64 ∧ Drawn B z w w' := by
  have h0 := strsOf_map h
  refine (spec_l1Pick_any B z _ (l.take n) _ (c.ext (Ext.alloc _ _)) (by rw [List.length_take]; omega) fun w' hd => ?_).mono ?_
  · rw [List.map_take]
    exact lit_reads c h0 (by rw [List.length_map]; exact hn) hc hm w' hd
  · rintro e w' ⟨x, rfl, hx, hd⟩
    rw [List.all_eq_true] at hs
    exact ⟨x, rfl, of_decide_eq_true (hs x (List.mem_of_mem_take hx)), ((Drawn.start c).alloc _).trans hd⟩
/-- a literal whose first n texts are short -/
def litOk (cs : Array Value) (n : Nat) : Bool := match strsOf cs.toList with
  | some l => decide (0 < n) && (decide (n ≤ l.length) && l.all fun x => decide (x.size ≤ 64))
  | none => false
theorem pick_ok {B z : Nat} {w : World} {t : TypeId} {cs : Array Value} {n cap : Nat} (c : Cur B w z) (h : litOk cs n = true) (hc : n ≤ cap) (hm : cap ≤ 1000) :
    Calls Tryz.prog 67 #[.pointer (some ⟨z, 0, none⟩), .slice (some ⟨w.heap.size, 0, none⟩) n cap] (w.alloc (.cells cs t)) fun e w' => ∃ x, e = .returned (.string x) ∧ x.size ≤ 64 ∧ Drawn B z w w' := by
  unfold litOk at h
  cases hs : strsOf cs.toList with
  | none => rw [hs] at h; cases h
  | some l =>
    rw [hs] at h
    simp only [Bool.and_eq_true, decide_eq_true_eq] at h
    exact pick_lit c hs h.1 h.2.1 hc hm h.2.2
theorem pickInt_lit {B z : Nat} {w : World} {t : TypeId} {cs : Array Value} {l : List Int} {n cap : Nat} (c : Cur B w z) (h : intsOf cs.toList = some l) (hn0 : 0 < n) (hn : n ≤ l.length) (hc : n ≤ cap) (hm : cap ≤ 1000) :
    Calls Tryz.prog 31 #[.pointer (some ⟨z, 0, none⟩), .slice (some ⟨w.heap.size, 0, none⟩) n cap] (w.alloc (.cells cs t)) fun e w' => ∃ x, e = .returned (.int .i64 x) ∧ x ∈ l ∧ Drawn B z w w' := by
  have h0 := intsOf_map h
  refine (spec_l1PickInt_any B z _ (l.take n) _ (c.ext (Ext.alloc _ _)) (by rw [List.length_take]; omega) fun w' hd => ?_).mono ?_
  · rw [List.map_take]
    exact lit_reads c h0 (by rw [List.length_map]; exact hn) hc hm w' hd
  · rintro e w' ⟨x, rfl, hx, hd⟩
    exact ⟨x, rfl, List.mem_of_mem_take hx, ((Drawn.start c).alloc _).trans hd⟩

set_option maxRecDepth 100000 in
set_option maxHeartbeats 1000000 in
theorem spec_l2Draw_any (B z k most : Nat) (w : World) (c : Cur B w z) (hk1 : 1 ≤ k) (hk3 : k ≤ 3) (hm : most ≤ 1000) :
    Calls Tryz.prog 92 #[.pointer (some ⟨z, 0, none⟩), .int .i64 k, .int .i64 most] w fun e w' => ∃ x, e = .returned (.string x) ∧ x.size ≤ 64000 ∧ Drawn B z w w' := by
  go_enter Tryz.func92, Tryz.ntmps92
  go_wp2_with fail
  with_reducible refine (spec_l1Below_any B z _ _ c).mono ?_
  rintro e w1 ⟨y, rfl, hy, -, hd⟩
  have hy : y ≤ most := by have := hy (by omega); omega
  go_wp2
  go_loopw [7, 8] (fun v j wr => ∃ (x : ByteArray) (k : Nat), v = .string x ∧ j = .int .i64 k ∧ k ≤ 1000 ∧ x.size + 64 * k ≤ 64000 ∧ Drawn B z w wr) (fun _ j _ => (intOf j).toNat)
  case atStart => exact ⟨_, y, rfl, rfl, by omega, by show 0 + 64 * y ≤ 64000; omega, hd⟩
  case round =>
    obtain ⟨x, q, rfl, rfl, hq, hx, hd⟩ := hrel
    cases q with
    | zero =>
      go_wp2
      go_ret
      exact ⟨x, rfl, by omega, hd⟩
    | succ q =>
      go_wp2_with fail
      with_reducible refine (pick_lit hd.cur (l := [⟨#[97]⟩, ⟨#[98]⟩, ⟨#[99]⟩]) rfl (by omega) (by rw [show ([⟨#[97]⟩, ⟨#[98]⟩, ⟨#[99]⟩] : List ByteArray).length = 3 from rfl]; omega) (by omega) (by omega) rfl).mono ?_
      rintro e w2 ⟨p, rfl, hp, hd2⟩
      replace hd := hd.trans hd2
      clear hd2
      have hcat : ¬ (9223372036854775807 : Int) < (x.size : Int) + (p.size : Int) := by omega
      go_wp2
      go_round
      case rel => exact ⟨_, q, rfl, by go_num, by omega, by rw [ByteArray.size_append]; omega, hd⟩
      case measure => simp [intOf]

/-- a text of bounded length -/
def StrLe (n : Nat) (v : Value) (_ : World) : Prop := ∃ x : ByteArray, v = .string x ∧ x.size ≤ n
theorem StrLe.elim {n : Nat} {v : Value} {w : World} (h : StrLe n v w) {C : Prop} (k : ∀ x : ByteArray, v = .string x → x.size ≤ n → C) : C := by
  obtain ⟨x, h1, h2⟩ := h
  exact k x h1 h2
end Go.Proofs.YtfiembmfkokllaaGreat

