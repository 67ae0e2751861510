/- Several texts of mine in one: Put, CallPut. -/
import Derived.Test.YtfiembmfkokllaaGreatPkD
/- A region that makes one variable and stores into it, late: its operations in any order. -/
namespace Go
open Go.RowKit
section
variable {P : Program}

/-- What an operation gives. -/
@[go_sem] def Oper.gives (P : Program) (I : Value → World → Prop) : Result Next → Prop
  | .ok (.value u) w' => I u w'
  | .ok .skip w' => I undef w'
  | .ok (.enter f args) w' => Calls P f args w' (fun e w'' => ∃ v, e = .returned v ∧ I v w'')
  | _ => False

theorem wpAny_st {l : List Oper} {S : List Keep} (hS : S.length = l.length) (hB : ancOk l (ancAll l []) = true) {a : Act} {Q : Exit → Act → World → Prop} (St : (Nat → Bool) → (Nat → Value) → World → Prop)
    (known : ∀ L vs w, St L vs w → ∀ j, j < l.length → L j = true → vs j = vsAt S vs j)
    (steps : ∀ L vs w i o, l[i]? = some o → L i = false → (∀ j, ancB l i j = true → L j = true) → (∀ j, ancB l j i = true → L j = false) → St L vs w →
      if Region.wanted o (yielded l.toArray (lexN l (vsAt S vs) a i).tmps) = true then Oper.gives P (fun v w' => St (fun j => if j = i then true else L j) (fun j => if j = i then v else vs j) w') ((execOp (lexN l (vsAt S vs) a i).eval o).run P w)
      else St (fun j => if j = i then true else L j) (fun j => if j = i then undef else vs j) w)
    (post : ∀ vs w, St (fun _ => true) vs w → Q .normal (lexN l (vsAt S vs) a l.length) w) :
    ∀ (fuel : Nat) (listed : Array Bool) (vs : Nat → Value) (c : Act) (w : World), listed.size = l.length → cntF l.length (fun i => listed.getD i true) = fuel →
      (∀ (i : Nat) (A : List Nat), listed[i]? = some true → (ancAll l [])[i]? = some A → ∀ j ∈ A, listed[j]? = some true) →
      Agrees l a vs (fun j => listed.getD j true) c → St (fun j => listed.getD j true) vs w → wpAny P .any l.toArray Q fuel listed c w := by
  have truth : ∀ {listed : Array Bool} {j : Nat}, listed.size = l.length → j < l.length → listed.getD j true = true → listed[j]? = some true := by
    intro listed j hsz hj h
    have h2 : j < listed.size := by omega
    simp [h2] at h ⊢
    exact h
  have hal : (ancAll l []).length = l.length := by
    have := hB
    simp only [ancOk, Bool.and_eq_true] at this
    have h2 := this.1.1
    simpa using (beq_iff_eq.1 h2).symm
  intro fuel
  induction fuel with
  | zero =>
    intro listed vs c w hsz hcnt hcl hag hSt
    have hall := cntF_zero hcnt
    have hL : (fun j => listed.getD j true) = fun _ => true := by
      funext j
      by_cases hj : j < l.length
      · exact hall j hj
      · simp [Array.getD_eq_getD_getElem?, Array.getElem?_eq_none (show listed.size ≤ j by omega)]
    have kn := known _ _ _ hSt
    rw [hL] at hSt hag
    have e : c = lexN l (vsAt S vs) a l.length := by
      refine Agrees.unique (hag.congr (vs' := vsAt S vs) (L' := fun _ => true) (fun _ _ _ => rfl) (fun j hj => ?_)) ((Agrees.lex hB a (vsAt S vs) l.length (Nat.le_refl _)).congr (fun j o ho => ?_) (fun _ _ => rfl))
      · by_cases hlt : j < l.length
        · exact kn j hlt (hall j hlt)
        · unfold vsAt
          rw [List.getElem?_eq_none (by omega)]
          rfl
      · have hj : j < l.length := (List.getElem?_eq_some_iff.1 ho).1
        simp [hj]
    have hQ := post vs w hSt
    rw [← e] at hQ
    refine ⟨?_, hQ⟩
    rw [List.eq_nil_iff_forall_not_mem]
    intro j hj
    have h1 := (mem_ready.1 hj).1
    have h2 : (fun j => listed.getD j true) j = true := by rw [hL]
    rw [show listed.getD j true = true from h2] at h1
    cases h1
  | succ fuel ih =>
    intro listed vs c w hsz hcnt hcl hag hSt
    have hsome : ∃ i, i < l.length ∧ listed.getD i true = false := by
      apply Classical.byContradiction
      intro hno
      have : cntF l.length (fun i => listed.getD i true) = 0 := by
        have h0 : ∀ n, n ≤ l.length → cntF n (fun i => listed.getD i true) = 0 := by
          intro n
          induction n with
          | zero => intro _; rfl
          | succ n ihn =>
            intro hn
            have : listed.getD n true = true := by
              cases hv : listed.getD n true with
              | true => rfl
              | false => exact absurd ⟨n, by omega, hv⟩ hno
            simp only [cntF, ihn (by omega), this]
            simp
        exact h0 l.length (Nat.le_refl _)
      omega
    refine ⟨fun hr => ?_, fun i hi => ?_⟩
    · exfalso
      obtain ⟨i, him, hun⟩ := hsome
      have := all_listed hB hr i him
      rw [this] at hun; cases hun
    have hil : i < l.length := by simpa using ready_bounds hi
    obtain ⟨hun, o, ho, hafter⟩ := mem_ready.1 hi
    have hol : l[i]? = some o := by simpa using ho
    obtain ⟨A, hA, hok⟩ := ancOk_at hB hol
    simp only [ancOk1, Bool.and_eq_true, List.all_eq_true, Array.any_eq_true] at hok
    have hns : ∀ cs b, o.op ≠ .select cs b := by
      have := hB
      simp only [ancOk, Bool.and_eq_true] at this
      exact fun cs b => Region.noSelect_spec this.1.2 i o cs b ho
    -- its forerunners are done
    have hAl : ∀ j ∈ A, listed[j]? = some true := by
      intro j hj
      have h1 := (hok.1.2 j hj)
      obtain ⟨k, hk, he⟩ := h1.2
      simp only [Bool.or_eq_true] at he
      have hl := hafter _ (Array.getElem_mem hk) he.1
      have hl' : listed[(o.after[k]'hk).on]? = some true := by
        cases hx : listed[(o.after[k]'hk).on]? with
        | none => simp [Array.getD_eq_getD_getElem?, hx] at hl
        | some b => simp [Array.getD_eq_getD_getElem?, hx] at hl; rw [hl]
      rcases he.2 with he | he
      · have : (o.after[k]'hk).on = j := by simpa using he
        rw [← this]; exact hl'
      · cases hB' : (ancAll l [])[(o.after[k]'hk).on]? with
        | none => rw [hB'] at he; simp at he
        | some B => rw [hB'] at he; exact hcl _ B hl' hB' j (by simpa using he)
    have hAL : ∀ j ∈ A, listed.getD j true = true := fun j hj => by simp [Array.getD_eq_getD_getElem?, hAl j hj]
    have hNl : ∀ j, ancB l j i = true → listed.getD j true = false := by
      intro j hj
      unfold ancB at hj
      cases hB' : (ancAll l [])[j]? with
      | none => rw [hB'] at hj; simp at hj
      | some B =>
        rw [hB'] at hj
        have hiB : i ∈ B := by simpa using hj
        have hjl : j < l.length := by
          have := (List.getElem?_eq_some_iff.1 hB').1
          omega
        cases hL : listed.getD j true with
        | false => rfl
        | true =>
          exfalso
          have h1 := hcl j B (truth hsz hjl hL) hB' i hiB
          simp [Array.getD_eq_getD_getElem?, h1] at hun
    have law := steps _ vs w i o hol hun (fun j hj => by
      have hjA : j ∈ A := by
        unfold ancB at hj
        rw [hA] at hj
        simpa using hj
      exact hAL j hjA) hNl hSt
    have hag' : Agrees l a (vsAt S vs) (fun j => listed.getD j true) c := hag.congr (fun _ _ _ => rfl) (fun j hj => by
      by_cases hlt : j < l.length
      · exact known _ vs w hSt j hlt hj
      · unfold vsAt
        rw [List.getElem?_eq_none (by omega)]
        rfl)
    have hsees := Agrees.sees hB hol hA hag' ((Agrees.lex hB a (vsAt S vs) i (by omega))) hAL (fun j hj => by
      have := anc_lt hB i i (Nat.le_refl _) o A hol hA j hj
      simpa using this) (fun j B hjB hiB => by
      -- what waits for it isn't done
      cases hL : listed.getD j true with
      | false => rfl
      | true =>
        exfalso
        have hjl : j < l.length := by
          have h1 : (ancAll l []).length = l.length := by
            have := hB
            simp only [ancOk, Bool.and_eq_true] at this
            have h2 := this.1.1
            simpa using (beq_iff_eq.1 h2).symm
          have := (List.getElem?_eq_some_iff.1 hjB).1
          omega
        have h1 := hcl j B (truth hsz hjl hL) hjB i hiB
        simp [Array.getD_eq_getD_getElem?, h1] at hun) (fun j B hjB hiB => by
      have hjl : j < l.length := by
        have h1 : (ancAll l []).length = l.length := by
          have := hB
          simp only [ancOk, Bool.and_eq_true] at this
          have h2 := this.1.1
          simpa using (beq_iff_eq.1 h2).symm
        have := (List.getElem?_eq_some_iff.1 hjB).1
        omega
      have := anc_lt hB j j (Nat.le_refl _) l[j] B (List.getElem?_eq_getElem hjl) hjB i hiB
      simp; omega)
    -- what comes behind
    have next : ∀ v w', St (fun j => if j = i then true else listed.getD j true) (fun j => if j = i then v else vs j) w' → wpAny P .any l.toArray Q fuel (listed.setIfInBounds i true) (c.put o.dst v) w' := by
      intro v w' hS'
      have hset : ∀ j, j ≠ i → (listed.setIfInBounds i true)[j]? = listed[j]? := fun j hj => by rw [Array.getElem?_setIfInBounds_ne (Ne.symm hj)]
      have hseti : (listed.setIfInBounds i true)[i]? = some true := by simp [hsz, hil]
      have hLe : (fun j => if j = i then true else listed.getD j true) = fun j => (listed.setIfInBounds i true).getD j true := by
        funext j
        by_cases hji : j = i
        · subst hji
          simp [Array.getD_eq_getD_getElem?, hseti]
        · simp only [hji, if_false, Array.getD_eq_getD_getElem?, hset j hji]
      rw [hLe] at hS'
      refine ih (listed.setIfInBounds i true) (fun j => if j = i then v else vs j) (c.put o.dst v) w' (by simp [hsz]) ?_ ?_ ?_ hS'
      · have := cntF_set (n := l.length) (i := i) (L := fun j => listed.getD j true) (L' := fun j => (listed.setIfInBounds i true).getD j true) hil hun
          (by simp [Array.getD_eq_getD_getElem?, hseti]) (fun j hj => by simp only [Array.getD_eq_getD_getElem?, hset j hj])
        omega
      · intro k B hk hB' j hj
        by_cases hki : k = i
        · subst hki
          rw [hA] at hB'; cases hB'
          by_cases hji : j = k
          · rw [hji]; exact hseti
          · rw [hset j hji]; exact hAl j hj
        · rw [hset k hki] at hk
          have := hcl k B hk hB' j hj
          by_cases hji : j = i
          · rw [hji]; exact hseti
          · rw [hset j hji]; exact this
      · exact Agrees.step hB hol v hag (fun j hj => by simp only [Array.getD_eq_getD_getElem?, hset j hj]) (by simp [Array.getD_eq_getD_getElem?, hseti]) (by simp) (fun j hj => by simp [hj])
    unfold wpOp
    simp only [ho]
    rw [wanted_sees o hsees]
    split
    · rename_i hw
      rw [if_pos hw] at law
      refine .inl ?_
      unfold Oper.wp
      rw [execOp_sees o hns hsees]
      generalize (execOp (lexN l (vsAt S vs) a i).eval o).run P w = r at law ⊢
      cases r with
      | ok n w' =>
        cases n <;> simp only [Oper.gives] at law <;> simp only [Oper.upon]
        case value u => exact next u w' law
        case skip => exact next undef w' law
        case enter f args =>
          refine law.mono fun e w'' he => ?_
          obtain ⟨v, rfl, hJ⟩ := he
          exact next v w'' hJ
      | halt x w' => simp only [Oper.gives] at law
    · rename_i hw
      rw [if_neg hw] at law
      exact next undef w law

/-- a pointer to a block of which Z is said -/
def PtrTo (Z : Nat → World → Prop) (v : Value) (w : World) : Prop := ∃ b, v = .pointer (some ⟨b, 0, none⟩) ∧ Z b w

/-- What is said of the slots is said of no memory. -/
def FreeAll : List Keep → Prop
  | [] => True
  | s :: rest => (∀ v w w', s.J v w → s.J v w') ∧ FreeAll rest
theorem FreeAll.at : ∀ {S : List Keep}, FreeAll S → ∀ (j : Nat) s, S[j]? = some s → ∀ v w w', s.J v w → s.J v w'
  | [], _, j, s, hj => by simp at hj
  | s0 :: S, h, 0, s, hj => by
    simp only [List.getElem?_cons_zero, Option.some.injEq] at hj
    subst hj; exact h.1
  | s0 :: S, h, j + 1, s, hj => FreeAll.at h.2 j s (by simpa using hj)

end
end Go
namespace Go.Proofs.YtfiembmfkokllaaGreat
open Go.RowKit Go.Cm
/-- a new block with these cells -/
def Fresh (n : Nat) (c : Array Value) (b : Nat) (w : World) : Prop := n ≤ b ∧ Blk w b c
theorem Fresh.ext {n : Nat} {c : Array Value} {b : Nat} {w w' : World} (hx : Ext w w') (h : Fresh n c b w) : Fresh n c b w' := ⟨h.1, h.2.ext hx⟩
theorem Fresh.new {n : Nat} {c : Array Value} {t : TypeId} {w : World} (h : n ≤ w.heap.size) : PtrTo (Fresh n c) (.pointer (some ⟨w.heap.size, 0, none⟩)) (w.alloc (.cells c t)) := ⟨_, rfl, h, Blk.mk' rfl⟩
end Go.Proofs.YtfiembmfkokllaaGreat

/- A region that draws its order: all its operations read, but for one call that may write, and one store behind it. No dump is imported. -/
namespace Go
open Go.RowKit
section
variable {P : Program}

end
end Go

