/- General tools: a region that asks the tape for its order, walked once, where each operation only makes new memory; small facts on worlds. No dump is imported. -/
import Derived.WalkKit
import Derived.WalkSpells
import Derived.Orders
import Derived.Still
import Derived.StillTail
import Derived.Deep.QuietTactic
import Derived.BigQuiet
namespace Go
open Go.RowKit

/-- Nothing that is there has turned. -/
def Ext (w w' : World) : Prop := Below w.heap.size w w'

theorem Ext.refl (w : World) : Ext w w := Below.refl _ _
theorem Ext.trans {a b c : World} (h : Ext a b) (k : Ext b c) : Ext a c :=
  Below.trans h (Below.mono k (Below.size h))
theorem Ext.below {B : Nat} {a b : World} (h : Ext a b) (hB : B ≤ a.heap.size) : Below B a b := Below.mono h hB
theorem Ext.drew (w : World) : Ext w w.drew := (Below.refl _ _).drew
theorem Ext.alloc (w : World) (o : Obj) : Ext w (w.alloc o) := (Below.refl _ _).alloc (Nat.le_refl _) o

theorem Ext.drewN {a w : World} (h : Ext a w) (n : Nat) : Ext a (w.drewN n) :=
  Below.trans (b := w) h ⟨rfl, rfl, rfl, Nat.le_refl _, fun _ _ => rfl⟩

/-- A callee's contract that leaves the world alone, met in a quiet region. -/
theorem Calls.quiet_is {P : Program} {f : FuncId} {args : Array Value} {w : World} {n : Nat} {v : Value}
    (h : Calls P f args (w.drewN n) fun e w' => e = .returned v ∧ w.drewN n = w') : Calls P f args (w.drewN n) fun e w'' => e = .returned v ∧ ∃ m, w'' = w.drewN m :=
  h.mono fun _ _ ⟨he, hm⟩ => ⟨he, n, hm.symm⟩

/-- What is said of a slot's value, and stays true while memory grows. -/
structure Keep where
  J : Value → World → Prop
  ok : ∀ v w w', Ext w w' → J v w → J v w'
  val : Option Value
  hval : ∀ c, val = some c → ∀ v w, J v w → v = c

@[go_sem] def Keep.known (c : Value) : Keep := ⟨fun v _ => v = c, fun _ _ _ _ h => h, some c, fun _ e _ _ h => h.trans (Option.some.inj e)⟩
@[go_sem] def Keep.any : Keep := ⟨fun _ _ => True, fun _ _ _ _ h => h, none, fun _ e => by cases e⟩
@[go_sem] def Keep.such (J : Value → World → Prop) (ok : ∀ v w w', Ext w w' → J v w → J v w') : Keep := ⟨J, ok, none, fun _ e => by cases e⟩
/-- the value, where it is known beforehand -/
@[go_sem] def Keep.at (s : Keep) (v : Value) : Value := s.val.getD v
theorem Keep.at_eq (s : Keep) {v : Value} {w : World} (h : s.J v w) : s.at v = v := by
  unfold Keep.at
  cases hc : s.val with
  | none => rfl
  | some c => exact (s.hval c hc v w h).symm

@[go_sem] theorem Ext.refl_iff (w : World) : Ext w w ↔ True := ⟨fun _ => trivial, fun _ => Ext.refl w⟩
theorem Ext.cell_some {w w' : World} (h : Ext w w') {a : Addr} {v : Value} (hc : w.cell? a = some v) : w'.cell? a = some v :=
  (Below.cell h (World.block_lt_of_cell? w a hc)).trans hc

/-- a slice over one new cell that holds x -/
def BoxOf (x : Value) (v : Value) (w : World) : Prop := ∃ b, v = .slice (some ⟨b, 0, none⟩) 1 1 ∧ w.cell? ⟨b, 0, none⟩ = some x
@[go_sem] def Keep.box (x : Value) : Keep := ⟨BoxOf x, fun _ _ _ hx ⟨b, h1, h2⟩ => ⟨b, h1, Ext.cell_some hx h2⟩, none, fun _ e => by cases e⟩
theorem boxOf_new (x : Value) (w : World) (E : TypeId) : Ext w (w.alloc (.cells #[x] E)) ∧ BoxOf x (.slice (some ⟨w.heap.size, 0, none⟩) 1 1) (w.alloc (.cells #[x] E)) :=
  ⟨Ext.alloc _ _, w.heap.size, rfl, by simp⟩

/-! ### Counting what is left -/

def cntF : Nat → (Nat → Bool) → Nat
  | 0, _ => 0
  | n + 1, L => cntF n L + (if L n then 0 else 1)

theorem cntF_zero : ∀ {n : Nat} {L : Nat → Bool}, cntF n L = 0 → ∀ i, i < n → L i = true
  | 0, _, _, i, hi => absurd hi (Nat.not_lt_zero _)
  | n + 1, L, h, i, hi => by
    simp only [cntF] at h
    have h1 : cntF n L = 0 := by omega
    by_cases hin : i < n
    · exact cntF_zero h1 i hin
    · have : i = n := by omega
      subst this
      cases hL : L i
      · simp [hL] at h
      · rfl

theorem cntF_congr : ∀ {n : Nat} {L L' : Nat → Bool}, (∀ j, j < n → L j = L' j) → cntF n L = cntF n L'
  | 0, _, _, _ => rfl
  | n + 1, L, L', h => by
    simp only [cntF]
    rw [cntF_congr (n := n) (fun j hj => h j (by omega)), h n (by omega)]

theorem cntF_set : ∀ {n i : Nat} {L L' : Nat → Bool}, i < n → L i = false → L' i = true → (∀ j, j ≠ i → L' j = L j) → cntF n L' + 1 = cntF n L
  | 0, _, _, _, hi, _, _, _ => absurd hi (Nat.not_lt_zero _)
  | n + 1, i, L, L', hi, h0, h1, h => by
    simp only [cntF]
    by_cases hin : i < n
    · have := cntF_set hin h0 h1 h
      rw [h n (by omega)]
      omega
    · have : i = n := by omega
      subst this
      rw [cntF_congr (n := i) (L := L') (L' := L) (fun j hj => h j (by omega)), h0, h1]
      simp

section
variable {P : Program}

/-- What an operation leaves behind: its value keeps what is said of it, and memory has only grown. -/
@[go_sem] def Oper.leaves (P : Program) (I : Value → World → Prop) (w : World) : Result Next → Prop
  | .ok (.value u) w' => Ext w w' ∧ I u w'
  | .ok .skip w' => Ext w w' ∧ I undef w'
  | .ok (.enter f args) w' => Ext w w' ∧ Calls P f args w' (fun e w'' => ∃ v, e = .returned v ∧ Ext w' w'' ∧ I v w'')
  | _ => False

@[go_sem] def Oper.leavesAt (P : Program) (I : Value → World → Prop) (o : Oper) (c : Act) (w : World) : Prop := Oper.leaves P I w ((execOp c.eval o).run P w)

/-- The place of the operation that writes a slot. -/
def dstOf (l : List Oper) (t : Nat) : Option Nat := l.findIdx? (fun o => o.dst == some t)

theorem dstOf_some {l : List Oper} {t : Nat} {j : Nat} (h : dstOf l t = some j) : ∃ o, l[j]? = some o ∧ o.dst = some t := by
  unfold dstOf at h
  obtain ⟨hj, hp, _⟩ := List.findIdx?_eq_some_iff_getElem.1 h
  exact ⟨l[j], by simp [hj], by simpa using hp⟩

/-- One operation of a region, and the places of those that surely come before it. -/
def ancOk1 (l : List Oper) (anc : List (List Nat)) (i : Nat) (o : Oper) (A : List Nat) : Bool :=
  (match o.dst with | some d => dstOf l d == some i | none => true) &&
  (o.looksAt l.toArray).all (fun t => match dstOf l t with | some j => A.contains j || ((anc[j]?).getD []).contains i | none => true) &&
  A.all (fun j => decide (j < l.length) && o.after.any (fun e => Region.binds .any e && (e.on == j || ((anc[e.on]?).map (·.contains j)).getD false))) &&
  o.after.all (fun e => !Region.binds .any e || decide (e.on < i))

def ancOk (l : List Oper) (anc : List (List Nat)) : Bool :=
  (l.length == anc.length) && Region.noSelect l.toArray &&
  (List.range l.length).all fun i => match l[i]?, anc[i]? with
    | some o, some A => ancOk1 l anc i o A
    | _, _ => false

/-- The forerunners of each operation, by the edges. -/
def ancAll : List Oper → List (List Nat) → List (List Nat)
  | [], acc => acc
  | o :: rest, acc => ancAll rest (acc ++ [o.after.toList.foldl (fun s e => if Region.binds .any e then (e.on :: acc.getD e.on []).foldl (fun s j => if s.contains j then s else j :: s) s else s) []])

def ancB (l : List Oper) (i j : Nat) : Bool := ((ancAll l [])[i]?.getD []).contains j

theorem ancOk_at {l : List Oper} {anc : List (List Nat)} (h : ancOk l anc = true) {i : Nat} {o : Oper} (hi : l[i]? = some o) :
    ∃ A, anc[i]? = some A ∧ ancOk1 l anc i o A = true := by
  simp only [ancOk, Bool.and_eq_true, List.all_eq_true] at h
  have hlt : i < l.length := (List.getElem?_eq_some_iff.1 hi).1
  have := h.2 i (by simpa using hlt)
  rw [hi] at this
  cases ha : anc[i]? with
  | none => simp [ha] at this
  | some A => exact ⟨A, rfl, by simpa [ha] using this⟩

/-- The frame when all before place m are done, in the text's order. -/
def lexN (l : List Oper) (vs : Nat → Value) (a : Act) : Nat → Act
  | 0 => a
  | m + 1 => (lexN l vs a m).put ((l[m]?).bind (·.dst)) (vs m)

/-- A frame in which just the operations of L are done. -/
def Agrees (l : List Oper) (a : Act) (vs : Nat → Value) (L : Nat → Bool) (c : Act) : Prop :=
  c.defers = a.defers ∧ ∀ t : Nat, c.tmps[t]? = match dstOf l t with
    | some j => if L j = true then (if t < a.tmps.size then some (vs j) else none) else a.tmps[t]?
    | none => a.tmps[t]?

theorem Act.put_at (c : Act) (d : Nat) (v : Value) (t : Nat) : (c.put (some d) v).tmps[t]? = if t = d then (if t < c.tmps.size then some v else none) else c.tmps[t]? := by
  simp only [Act.put, Array.getElem?_setIfInBounds]
  by_cases h : d = t
  · subst h; simp
  · simp [h, Ne.symm h]

theorem Agrees.size {l : List Oper} {a c : Act} {vs : Nat → Value} {L : Nat → Bool} (h : Agrees l a vs L c) (t : Nat) : t < c.tmps.size ↔ t < a.tmps.size := by
  have := h.2 t
  cases hd : dstOf l t with
  | none =>
    simp only [hd] at this
    by_cases h1 : t < c.tmps.size
    · rw [Array.getElem?_eq_getElem h1] at this
      have := (Array.getElem?_eq_some_iff.1 this.symm).1
      simp [h1, this]
    · rw [Array.getElem?_eq_none (by omega)] at this
      have := Array.getElem?_eq_none_iff.1 this.symm
      omega
  | some j =>
    simp only [hd] at this
    by_cases hL : L j = true
    · simp only [hL, if_true] at this
      by_cases h1 : t < c.tmps.size
      · rw [Array.getElem?_eq_getElem h1] at this
        by_cases h2 : t < a.tmps.size
        · simp [h1, h2]
        · simp [h2] at this
      · rw [Array.getElem?_eq_none (by omega)] at this
        by_cases h2 : t < a.tmps.size
        · simp [h2] at this
        · omega
    · simp only [hL] at this
      by_cases h1 : t < c.tmps.size
      · rw [Array.getElem?_eq_getElem h1] at this
        have := (Array.getElem?_eq_some_iff.1 this.symm).1
        simp [h1, this]
      · rw [Array.getElem?_eq_none (by omega)] at this
        have := Array.getElem?_eq_none_iff.1 (this.symm)
        omega

/-- One more operation is done. -/
theorem Agrees.step {l : List Oper} {anc : List (List Nat)} (hB : ancOk l anc = true) {a c : Act} {vs vs' : Nat → Value} {L L' : Nat → Bool} {i : Nat} {o : Oper} (hi : l[i]? = some o) (v : Value)
    (h : Agrees l a vs L c) (hL : ∀ j, j ≠ i → L' j = L j) (hLi : L' i = true) (hv : vs' i = v) (hvs : ∀ j, j ≠ i → vs' j = vs j) : Agrees l a vs' L' (c.put o.dst v) := by
  obtain ⟨A, hA, hok⟩ := ancOk_at hB hi
  simp only [ancOk1, Bool.and_eq_true] at hok
  have hdst := hok.1.1.1
  refine ⟨by cases o.dst <;> exact h.1, fun t => ?_⟩
  have hsz := h.size t
  have ht := h.2 t
  cases hd : o.dst with
  | none =>
    show c.tmps[t]? = _
    rw [ht]
    cases hj : dstOf l t with
    | none => rfl
    | some j =>
      have hji : j ≠ i := fun e => by
        subst e
        obtain ⟨o', ho', hd'⟩ := dstOf_some hj
        rw [hi] at ho'; cases ho'; rw [hd] at hd'; cases hd'
      simp only [hL j hji, hvs j hji]
  | some d =>
    rw [hd] at hdst
    have hdi : dstOf l d = some i := by simpa using hdst
    rw [Act.put_at]
    by_cases htd : t = d
    · subst htd
      rw [if_pos rfl, hdi]
      simp only [hLi, if_true, hv]
      by_cases h1 : t < c.tmps.size
      · simp [h1, hsz.1 h1]
      · have : ¬ t < a.tmps.size := fun h2 => h1 (hsz.2 h2)
        simp [h1, this]
    · rw [if_neg htd, ht]
      cases hj : dstOf l t with
      | none => rfl
      | some j =>
        have hji : j ≠ i := fun e => by
          subst e
          obtain ⟨o', ho', hd'⟩ := dstOf_some hj
          rw [hi] at ho'; cases ho'; rw [hd] at hd'
          exact htd (Option.some.inj hd').symm
        simp only [hL j hji, hvs j hji]

theorem Agrees.lex {l : List Oper} {anc : List (List Nat)} (hB : ancOk l anc = true) (a : Act) (vs : Nat → Value) : ∀ m, m ≤ l.length → Agrees l a vs (fun j => decide (j < m)) (lexN l vs a m)
  | 0, _ => ⟨rfl, fun t => by cases dstOf l t <;> simp [lexN]⟩
  | m + 1, hm => by
    have hi : l[m]? = some l[m] := List.getElem?_eq_getElem (by omega)
    have := Agrees.step hB hi (vs m) (Agrees.lex hB a vs m (by omega)) (vs' := vs) (L' := fun j => decide (j < m + 1)) (fun j hj => by simp only [decide_eq_decide]; omega) (by simp) rfl (fun _ _ => rfl)
    simpa [lexN, hi] using this

theorem Agrees.congr {l : List Oper} {a c : Act} {vs vs' : Nat → Value} {L L' : Nat → Bool} (h : Agrees l a vs L c) (hL : ∀ j o, l[j]? = some o → L j = L' j) (hv : ∀ j, L j = true → vs j = vs' j) : Agrees l a vs' L' c := by
  refine ⟨h.1, fun t => ?_⟩
  rw [h.2 t]
  cases hj : dstOf l t with
  | none => rfl
  | some j =>
    obtain ⟨o, ho, _⟩ := dstOf_some hj
    simp only [← hL j o ho]
    by_cases hl : L j = true
    · simp only [hl, if_true, hv j hl]
    · simp only [hl, Bool.false_eq_true, if_false]

theorem Agrees.unique {l : List Oper} {a c c' : Act} {vs : Nat → Value} {L : Nat → Bool} (h : Agrees l a vs L c) (h' : Agrees l a vs L c') : c = c' := by
  obtain ⟨t, d⟩ := c
  obtain ⟨t', d'⟩ := c'
  have h1 : d = d' := h.1.trans h'.1.symm
  have h2 : t = t' := Array.ext_getElem? fun i => (h.2 i).trans (h'.2 i).symm
  subst h1; subst h2; rfl

/-- What an operation looks at reads alike where its forerunners are done, and none of those that wait for it. -/
theorem Agrees.sees {l : List Oper} {anc : List (List Nat)} (hB : ancOk l anc = true) {a c c' : Act} {vs : Nat → Value} {L L' : Nat → Bool} {i : Nat} {o : Oper} {A : List Nat} (hi : l[i]? = some o) (hA : anc[i]? = some A)
    (h : Agrees l a vs L c) (h' : Agrees l a vs L' c') (hL : ∀ j ∈ A, L j = true) (hL' : ∀ j ∈ A, L' j = true) (hN : ∀ j B, anc[j]? = some B → i ∈ B → L j = false) (hN' : ∀ j B, anc[j]? = some B → i ∈ B → L' j = false) : ∀ t ∈ o.looksAt l.toArray, c.tmps[t]? = c'.tmps[t]? := by
  intro t ht
  obtain ⟨A', hA', hok⟩ := ancOk_at hB hi
  rw [hA] at hA'; cases hA'
  simp only [ancOk1, Bool.and_eq_true, List.all_eq_true] at hok
  have := hok.1.1.2 t ht
  rw [h.2 t, h'.2 t]
  cases hj : dstOf l t with
  | none => rfl
  | some j =>
    rw [hj] at this
    simp only [Bool.or_eq_true] at this
    rcases this with this | this
    · have hjA : j ∈ A := by simpa using this
      simp only [hL j hjA, hL' j hjA]
    · cases hB' : anc[j]? with
      | none => rw [hB'] at this; simp at this
      | some B =>
        rw [hB'] at this
        have hiB : i ∈ B := by simpa using this
        simp only [hN j B hB' hiB, hN' j B hB' hiB, Bool.false_eq_true, if_false]

/-- A forerunner stands ahead. -/
theorem anc_lt {l : List Oper} {anc : List (List Nat)} (hB : ancOk l anc = true) : ∀ (n i : Nat), i ≤ n → ∀ o A, l[i]? = some o → anc[i]? = some A → ∀ j ∈ A, j < i := by
  intro n
  induction n with
  | zero =>
    intro i hin o A hol hA j hj
    obtain ⟨A', hA', hok'⟩ := ancOk_at hB hol
    rw [hA] at hA'; cases hA'
    simp only [ancOk1, Bool.and_eq_true, List.all_eq_true, Array.any_eq_true, Array.all_eq_true_iff_forall_mem] at hok'
    obtain ⟨k, hk, he⟩ := (hok'.1.2 j hj).2
    have hlt := hok'.2 _ (Array.getElem_mem hk)
    simp [he.1] at hlt
    omega
  | succ n ihn =>
    intro i hin o A hol hA j hj
    obtain ⟨A', hA', hok'⟩ := ancOk_at hB hol
    rw [hA] at hA'; cases hA'
    simp only [ancOk1, Bool.and_eq_true, List.all_eq_true, Array.any_eq_true, Array.all_eq_true_iff_forall_mem] at hok'
    obtain ⟨k, hk, he⟩ := (hok'.1.2 j hj).2
    have hlt := hok'.2 _ (Array.getElem_mem hk)
    simp only [Bool.or_eq_true] at he
    simp [he.1] at hlt
    rcases he.2 with he | he
    · have : (o.after[k]'hk).on = j := by simpa using he
      omega
    · cases hB' : anc[(o.after[k]'hk).on]? with
      | none => rw [hB'] at he; simp at he
      | some B =>
        rw [hB'] at he
        have hlt' : (o.after[k]'hk).on < l.length := by
          have := (List.getElem?_eq_some_iff.1 hol).1
          omega
        have := ihn (o.after[k]'hk).on (by omega) l[(o.after[k]'hk).on] B (List.getElem?_eq_getElem hlt') hB' j (by simpa using he)
        omega

theorem execOp_sees {ops : Array Oper} (o : Oper) (hs : ∀ cs b, o.op ≠ .select cs b) {c c' : Act} (h : ∀ t ∈ o.looksAt ops, c.tmps[t]? = c'.tmps[t]?) : execOp c.eval o = execOp c'.eval o :=
  execOp_congr o hs fun x hx => by
    cases x with
    | tmp t =>
      have := h t (List.mem_append_left _ (List.mem_filterMap.2 ⟨.tmp t, by simpa using hx, rfl⟩))
      simp only [Act.eval, Array.getD_eq_getD_getElem?, this]
    | _ => rfl

theorem wanted_sees {ops : Array Oper} (o : Oper) {c c' : Act} (h : ∀ t ∈ o.looksAt ops, c.tmps[t]? = c'.tmps[t]?) : Region.wanted o (yielded ops c.tmps) = Region.wanted o (yielded ops c'.tmps) := by
  unfold Region.wanted
  cases hg : o.guard with
  | none => rfl
  | some gw =>
    obtain ⟨g, want⟩ := gw
    have hy : yielded ops c.tmps g = yielded ops c'.tmps g := by
      unfold yielded
      cases ht : (ops[g]?).bind (·.dst) with
      | none => rfl
      | some t =>
        have := h t (by simp [Oper.looksAt, hg, ht])
        simp only [Option.bind_some, this]
    simp only [hy]

/-- What of the slots is known, in a place. -/
def vsAt (S : List Keep) (vs : Nat → Value) (j : Nat) : Value := ((S[j]?).map (fun s => s.at (vs j))).getD (vs j)

/-- A region's operations in the text's order, each with what is said of its value. -/
def invSteps (P : Program) (ops : List Oper) (F : World → Prop) (S : List Keep) (vs : Nat → Value) : List Oper → List Keep → Nat → Act → Prop
  | o :: rest, s :: srest, i, c =>
    (∀ w', F w' → (∀ j, ancB ops i j = true → ((S[j]?).map (fun s => s.J (vs j) w')).getD True) → if Region.wanted o (yielded ops.toArray c.tmps) = true then o.leavesAt P s.J c w' else s.J undef w') ∧
    invSteps P ops F S vs rest srest (i + 1) (c.put o.dst (s.at (vs i)))
  | _, _, _, _ => True

theorem invSteps_at {F : World → Prop} {S0 : List Keep} {vs : Nat → Value} {l0 : List Oper} {a : Act} : ∀ (l : List Oper) (S : List Keep) (k : Nat),
    (∀ j, l[j]? = l0[k + j]?) → (∀ j, S[j]? = S0[k + j]?) → invSteps P l0 F S0 vs l S k (lexN l0 (vsAt S0 vs) a k) → ∀ i o s, l[i]? = some o → S[i]? = some s →
    ∀ w', F w' → (∀ j, ancB l0 (k + i) j = true → ((S0[j]?).map (fun s => s.J (vs j) w')).getD True) →
      if Region.wanted o (yielded l0.toArray (lexN l0 (vsAt S0 vs) a (k + i)).tmps) = true then o.leavesAt P s.J (lexN l0 (vsAt S0 vs) a (k + i)) w' else s.J undef w'
  | [], _, _, _, _, _, i, o, s, hi, _ => by simp at hi
  | o' :: l, [], _, _, _, _, i, o, s, _, hs => by simp at hs
  | o' :: l, s' :: S, k, hl, hS, h, 0, o, s, hi, hs => by
    simp only [List.getElem?_cons_zero, Option.some.injEq] at hi hs
    subst hi; subst hs
    exact h.1
  | o' :: l, s' :: S, k, hl, hS, h, i + 1, o, s, hi, hs => by
    have h0 : l0[k]? = some o' := by simpa using (hl 0).symm
    have s0 : S0[k]? = some s' := by simpa using (hS 0).symm
    have := invSteps_at l S (k + 1) (fun j => by have := hl (j + 1); simpa [Nat.add_assoc, Nat.add_comm 1 j] using this) (fun j => by have := hS (j + 1); simpa [Nat.add_assoc, Nat.add_comm 1 j] using this)
      (by simpa [lexN, h0, vsAt, s0] using h.2) i o s (by simpa using hi) (by simpa using hs)
    have e : k + 1 + i = k + (i + 1) := by omega
    rw [e] at this
    exact this

/-- The frame behind the region. -/
def lexGo (vs : Nat → Value) : List Oper → List Keep → Nat → Act → Act
  | o :: rest, s :: srest, i, c => lexGo vs rest srest (i + 1) (c.put o.dst (s.at (vs i)))
  | _, _, _, c => c
@[go_sem] theorem lexGo_cons (vs : Nat → Value) (o : Oper) (rest : List Oper) (s : Keep) (srest : List Keep) (i : Nat) (c : Act) : lexGo vs (o :: rest) (s :: srest) i c = lexGo vs rest srest (i + 1) (c.put o.dst (s.at (vs i))) := rfl
@[go_sem] theorem lexGo_nil (vs : Nat → Value) (l : List Oper) (i : Nat) (c : Act) : lexGo vs l [] i c = c := by cases l <;> rfl

theorem lexGo_eq {S0 : List Keep} {vs : Nat → Value} {l0 : List Oper} {a : Act} : ∀ (l : List Oper) (S : List Keep) (k : Nat),
    (∀ j, l[j]? = l0[k + j]?) → (∀ j, S[j]? = S0[k + j]?) → S.length ≤ l.length → lexGo vs l S k (lexN l0 (vsAt S0 vs) a k) = lexN l0 (vsAt S0 vs) a (k + S.length)
  | l, [], _, _, _, _ => by rw [lexGo_nil]; rfl
  | [], _ :: _, _, _, _, h => by simp at h
  | o :: l, s :: S, k, hl, hS, h => by
    have h0 : l0[k]? = some o := by simpa using (hl 0).symm
    have s0 : S0[k]? = some s := by simpa using (hS 0).symm
    have := lexGo_eq (vs := vs) (l0 := l0) (S0 := S0) (a := a) l S (k + 1) (fun j => by have := hl (j + 1); simpa [Nat.add_assoc, Nat.add_comm 1 j] using this) (fun j => by have := hS (j + 1); simpa [Nat.add_assoc, Nat.add_comm 1 j] using this) (by simpa using h)
    have e : k + (s :: S).length = k + 1 + S.length := by simp; omega
    rw [e, ← this]
    simp [lexGo, lexN, h0, vsAt, s0]

theorem ready_bounds {ops : Array Oper} {md : Region.Mode} {listed : Array Bool} {j : Nat} (h : j ∈ Region.ready md ops listed) : j < ops.size := by
  obtain ⟨_, o, ho, _⟩ := mem_ready.1 h
  exact (Array.getElem?_eq_some_iff.1 ho).1

/-- Where nothing is ready, all is done. -/
theorem all_listed {l : List Oper} {anc : List (List Nat)} (hB : ancOk l anc = true) {listed : Array Bool} (hr : Region.ready .any l.toArray listed = []) : ∀ i, i < l.length → listed.getD i true = true := by
  intro i
  induction i using Nat.strongRecOn with
  | ind i ih =>
    intro hi
    cases hL : listed.getD i true with
    | true => rfl
    | false =>
      exfalso
      have ho : l[i]? = some l[i] := List.getElem?_eq_getElem hi
      obtain ⟨A, hA, hok⟩ := ancOk_at hB ho
      simp only [ancOk1, Bool.and_eq_true, Array.all_eq_true_iff_forall_mem] at hok
      have : i ∈ Region.ready .any l.toArray listed := mem_ready.2 ⟨hL, l[i], by simp, fun e he hb => by
        have h1 := hok.2 e he
        have hlt : e.on < i := by simpa [hb] using h1
        have h2 := ih e.on hlt (by omega)
        have hsz : i < listed.size := by
          rcases Nat.lt_or_ge i listed.size with h | h
          · exact h
          · simp [Array.getElem?_eq_none h] at hL
        have : e.on < listed.size := by omega
        simp [this] at h2 ⊢
        exact h2⟩
      rw [hr] at this
      cases this

/-- What stands from place m on comes behind all that stands ahead of it, in the text's order. -/
def tailOk (l : List Oper) (m : Nat) : Bool :=
  ((List.range l.length).all fun t => decide (t < m) || (List.range t).all fun j => ancB l t j) && Region.seqB .any l.toArray (l.length - m) m (Array.replicate m true ++ Array.replicate (l.length - m) false)

theorem wpAny_inv {l : List Oper} {S : List Keep} {m : Nat} (hS : S.length = m) (hml : m ≤ l.length) (hB : ancOk l (ancAll l []) = true) (hT : tailOk l m = true) {F : World → Prop} (hF : ∀ w w', Ext w w' → F w → F w') {a : Act} {Q : Exit → Act → World → Prop}
    (steps : ∀ vs, invSteps P l F S vs l S 0 a)
    (post : ∀ (vs : Nat → Value) w', F w' → (∀ (j : Nat) (s : Keep), S[j]? = some s → s.J (vs j) w') → wpList P l.toArray Q (l.drop m) (lexN l (vsAt S vs) a m) w') :
    ∀ (fuel : Nat) (listed : Array Bool) (vs : Nat → Value) (c : Act) (w : World), listed.size = l.length → cntF m (fun i => listed.getD i true) = fuel → (∀ i, m ≤ i → i < l.length → listed.getD i true = false) →
      (∀ (i : Nat) (A : List Nat), listed[i]? = some true → (ancAll l [])[i]? = some A → ∀ j ∈ A, listed[j]? = some true) →
      Agrees l a vs (fun j => listed.getD j true) c → F w → (∀ (j : Nat) (s : Keep), listed[j]? = some true → S[j]? = some s → s.J (vs j) w) → wpAny P .any l.toArray Q (fuel + (l.length - m)) listed c w := by
  -- what is known is what is there
  have known : ∀ (listed : Array Bool) (vs : Nat → Value) (w : World), (∀ (j : Nat) (s : Keep), listed[j]? = some true → S[j]? = some s → s.J (vs j) w) → ∀ j, listed[j]? = some true → vs j = vsAt S vs j := by
    intro listed vs w hI j hj
    unfold vsAt
    cases hs : S[j]? with
    | none => rfl
    | some s => exact (s.at_eq (hI j s hj hs)).symm
  have truth : ∀ {listed : Array Bool} {j : Nat}, listed.size = l.length → j < l.length → listed.getD j true = true → listed[j]? = some true := by
    intro listed j hsz hj h
    have h2 : j < listed.size := by omega
    simp [h2] at h ⊢
    exact h
  simp only [tailOk, Bool.and_eq_true, List.all_eq_true] at hT
  -- the end
  have fin : ∀ (listed : Array Bool) (vs : Nat → Value) (c : Act) (w : World), listed.size = l.length → (∀ i, i < m → listed.getD i true = true) → (∀ i, m ≤ i → i < l.length → listed.getD i true = false) → Agrees l a vs (fun j => listed.getD j true) c → F w →
      (∀ (j : Nat) (s : Keep), listed[j]? = some true → S[j]? = some s → s.J (vs j) w) → wpAny P .any l.toArray Q (l.length - m) listed c w := by
    intro listed vs c w hsz hall hrest hag hFw hI
    have kn := known listed vs w hI
    have e : c = lexN l (vsAt S vs) a m := by
      refine Agrees.unique (hag.congr (vs' := vsAt S vs) (L' := fun j => listed.getD j true) (fun _ _ _ => rfl) (fun j hj => ?_)) ((Agrees.lex hB a (vsAt S vs) m hml).congr (fun j o ho => ?_) (fun _ _ => rfl))
      · by_cases hlt : j < l.length
        · exact kn j (truth hsz hlt hj)
        · unfold vsAt
          rw [List.getElem?_eq_none (by omega)]
          rfl
      · have hj : j < l.length := (List.getElem?_eq_some_iff.1 ho).1
        by_cases hjm : j < m
        · simp only [hall j hjm]
          simpa using hjm
        · simp only [hrest j (by omega) hj]
          simpa using hjm
    have el : listed = Array.replicate m true ++ Array.replicate (l.length - m) false := by
      apply Array.ext
      · simp; omega
      · intro i h1 h2
        have hil : i < l.length := by omega
        by_cases him : i < m
        · have := truth hsz hil (hall i him)
          rw [Array.getElem?_eq_getElem h1] at this
          rw [Option.some.inj this]
          simp [him]
        · have := hrest i (by omega) hil
          simp [h1] at this
          rw [this]
          simp [Array.getElem_append, him]
    have hseq : Region.seqB .any l.toArray (l.drop m).length m listed = true := by
      rw [el, List.length_drop]; exact hT.2
    have := wpAny_of_seq (P := P) (Q' := Q) (ops := l.toArray) (l.drop m) m listed c w (fun j => by simp) hseq (by
      rw [e]
      refine post vs w hFw fun j s hs => hI j s ?_ hs
      have hj : j < S.length := (List.getElem?_eq_some_iff.1 hs).1
      exact truth hsz (by omega) (hall j (by omega)))
    rwa [List.length_drop] at this
  intro fuel
  induction fuel with
  | zero =>
    intro listed vs c w hsz hcnt hrest hcl hag hFw hI
    rw [Nat.zero_add]
    exact fin listed vs c w hsz (cntF_zero hcnt) hrest hag hFw hI
  | succ fuel ih =>
    intro listed vs c w hsz hcnt hrest hcl hag hFw hI
    rw [show fuel + 1 + (l.length - m) = (fuel + (l.length - m)) + 1 by omega]
    have hsome : ∃ i, i < m ∧ listed.getD i true = false := by
      apply Classical.byContradiction
      intro hno
      have : cntF m (fun i => listed.getD i true) = 0 := by
        have h0 : ∀ n, n ≤ m → cntF n (fun i => listed.getD i true) = 0 := by
          intro n
          induction n with
          | zero => intro _; rfl
          | succ n ihn =>
            intro hn
            have : listed.getD n true = true := by
              cases hv : listed.getD n true with
              | true => rfl
              | false => exact absurd ⟨n, by omega, hv⟩ hno
            simp only [cntF, ihn (by omega), this]
            simp
        exact h0 m (Nat.le_refl _)
      omega
    refine ⟨fun hr => ?_, fun i hi => ?_⟩
    · exfalso
      obtain ⟨i, him, hun⟩ := hsome
      have := all_listed hB hr i (by omega)
      rw [this] at hun; cases hun
    have hil : i < l.length := by simpa using ready_bounds hi
    obtain ⟨hun, o, ho, hafter⟩ := mem_ready.1 hi
    have hol : l[i]? = some o := by simpa using ho
    obtain ⟨A, hA, hok⟩ := ancOk_at hB hol
    simp only [ancOk1, Bool.and_eq_true, List.all_eq_true, Array.any_eq_true] at hok
    have hns : ∀ cs b, o.op ≠ .select cs b := by
      have := hB
      simp only [ancOk, Bool.and_eq_true] at this
      exact fun cs b => Region.noSelect_spec this.1.2 i o cs b ho
    -- its forerunners are done
    have hAl : ∀ j ∈ A, listed[j]? = some true := by
      intro j hj
      have h1 := (hok.1.2 j hj)
      obtain ⟨k, hk, he⟩ := h1.2
      simp only [Bool.or_eq_true] at he
      have hl := hafter _ (Array.getElem_mem hk) he.1
      have hl' : listed[(o.after[k]'hk).on]? = some true := by
        cases hx : listed[(o.after[k]'hk).on]? with
        | none => simp [Array.getD_eq_getD_getElem?, hx] at hl
        | some b => simp [Array.getD_eq_getD_getElem?, hx] at hl; rw [hl]
      rcases he.2 with he | he
      · have : (o.after[k]'hk).on = j := by simpa using he
        rw [← this]; exact hl'
      · cases hB' : (ancAll l [])[(o.after[k]'hk).on]? with
        | none => rw [hB'] at he; simp at he
        | some B => rw [hB'] at he; exact hcl _ B hl' hB' j (by simpa using he)
    have hAL : ∀ j ∈ A, listed.getD j true = true := fun j hj => by simp [Array.getD_eq_getD_getElem?, hAl j hj]
    have him : i < m := by
      rcases Nat.lt_or_ge i m with h | h
      · exact h
      · exfalso
        obtain ⟨k, hkm, hkun⟩ := hsome
        have h1 := hT.1 i (by simpa using hil)
        simp only [Bool.or_eq_true, decide_eq_true_eq, List.all_eq_true] at h1
        rcases h1 with h1 | h1
        · omega
        · have h2 := h1 k (by simp; omega)
          unfold ancB at h2
          rw [hA] at h2
          have h3 := hAL k (by simpa using h2)
          rw [h3] at hkun; cases hkun
    -- the step's own law
    have hs : ∃ s, S[i]? = some s := ⟨S[i]'(by omega), List.getElem?_eq_getElem (by omega)⟩
    obtain ⟨s, hs⟩ := hs
    have law := invSteps_at (l0 := l) l S 0 (fun j => by rw [Nat.zero_add]) (fun j => by rw [Nat.zero_add]) (steps vs) i o s hol hs w hFw (fun j hj => by
      have hjA : j ∈ A := by
        unfold ancB at hj
        rw [Nat.zero_add, hA] at hj
        simpa using hj
      have h1 := hAl j hjA
      cases hsj : S[j]? with
      | none => simp
      | some s' => simp only [Option.map_some, Option.getD_some]; exact hI j s' h1 hsj)
    rw [Nat.zero_add] at law
    have hag' : Agrees l a (vsAt S vs) (fun j => listed.getD j true) c := hag.congr (fun _ _ _ => rfl) (fun j hj => by
      by_cases hlt : j < l.length
      · exact known listed vs w hI j (truth hsz hlt hj)
      · unfold vsAt
        rw [List.getElem?_eq_none (by omega)]
        rfl)
    have hsees := Agrees.sees hB hol hA hag' ((Agrees.lex hB a (vsAt S vs) i (by omega))) hAL (fun j hj => by
      have := anc_lt hB i i (Nat.le_refl _) o A hol hA j hj
      simpa using this) (fun j B hjB hiB => by
      -- what waits for it isn't done
      cases hL : listed.getD j true with
      | false => rfl
      | true =>
        exfalso
        have hjl : j < l.length := by
          have h1 : (ancAll l []).length = l.length := by
            have := hB
            simp only [ancOk, Bool.and_eq_true] at this
            have h2 := this.1.1
            simpa using (beq_iff_eq.1 h2).symm
          have := (List.getElem?_eq_some_iff.1 hjB).1
          omega
        have h1 := hcl j B (truth hsz hjl hL) hjB i hiB
        simp [Array.getD_eq_getD_getElem?, h1] at hun) (fun j B hjB hiB => by
      have hjl : j < l.length := by
        have h1 : (ancAll l []).length = l.length := by
          have := hB
          simp only [ancOk, Bool.and_eq_true] at this
          have h2 := this.1.1
          simpa using (beq_iff_eq.1 h2).symm
        have := (List.getElem?_eq_some_iff.1 hjB).1
        omega
      have := anc_lt hB j j (Nat.le_refl _) l[j] B (List.getElem?_eq_getElem hjl) hjB i hiB
      simp; omega)
    -- what comes behind
    have next : ∀ v w', Ext w w' → s.J v w' → wpAny P .any l.toArray Q (fuel + (l.length - m)) (listed.setIfInBounds i true) (c.put o.dst v) w' := by
      intro v w' hext hJ
      have hset : ∀ j, j ≠ i → (listed.setIfInBounds i true)[j]? = listed[j]? := fun j hj => by rw [Array.getElem?_setIfInBounds_ne (Ne.symm hj)]
      have hseti : (listed.setIfInBounds i true)[i]? = some true := by simp [hsz, hil]
      refine ih (listed.setIfInBounds i true) (fun j => if j = i then v else vs j) (c.put o.dst v) w' (by simp [hsz]) ?_ (fun k hk hkl => by
        rw [Array.getD_eq_getD_getElem?, hset k (by omega), ← Array.getD_eq_getD_getElem?]; exact hrest k hk hkl) ?_ ?_ (hF _ _ hext hFw) ?_
      · have := cntF_set (n := m) (i := i) (L := fun j => listed.getD j true) (L' := fun j => (listed.setIfInBounds i true).getD j true) him hun
          (by simp [Array.getD_eq_getD_getElem?, hseti]) (fun j hj => by simp only [Array.getD_eq_getD_getElem?, hset j hj])
        omega
      · intro k B hk hB' j hj
        by_cases hki : k = i
        · subst hki
          rw [hA] at hB'; cases hB'
          by_cases hji : j = k
          · rw [hji]; exact hseti
          · rw [hset j hji]; exact hAl j hj
        · rw [hset k hki] at hk
          have := hcl k B hk hB' j hj
          by_cases hji : j = i
          · rw [hji]; exact hseti
          · rw [hset j hji]; exact this
      · exact Agrees.step hB hol v hag (fun j hj => by simp only [Array.getD_eq_getD_getElem?, hset j hj]) (by simp [Array.getD_eq_getD_getElem?, hseti]) (by simp) (fun j hj => by simp [hj])
      · intro j s' hj hs'
        by_cases hji : j = i
        · subst hji
          rw [hs] at hs'; cases hs'
          simpa using hJ
        · rw [hset j hji] at hj
          simp only [hji, if_false]
          exact s'.ok _ _ _ hext (hI j s' hj hs')
    unfold wpOp
    simp only [ho]
    rw [wanted_sees o hsees]
    split
    · rename_i hw
      rw [if_pos hw] at law
      refine .inl ?_
      unfold Oper.leavesAt at law
      unfold Oper.wp
      rw [execOp_sees o hns hsees]
      generalize (execOp (lexN l (vsAt S vs) a i).eval o).run P w = r at law ⊢
      cases r with
      | ok n w' =>
        cases n <;> simp only [Oper.leaves] at law <;> simp only [Oper.upon]
        case value u => exact next u w' law.1 law.2
        case skip => exact next undef w' law.1 law.2
        case enter f args =>
          refine law.2.mono fun e w'' he => ?_
          obtain ⟨v, rfl, hext, hJ⟩ := he
          exact next v w'' (law.1.trans hext) hJ
      | halt x w' => simp only [Oper.leaves] at law
    · rename_i hw
      rw [if_neg hw] at law
      exact next undef w (Ext.refl w) law

/-- **ONE WALK IN THE TEXT's ORDER SERVES EVERY ORDER**, where all but the last operations make new memory at most and turn none, and the last ones come behind all of these: of each slot it is said beforehand what will be known of its value, whatever was done before it. -/
theorem wp_region_tail {id : Nat} {l : List Oper} {Q : Exit → Act → World → Prop} {a : Act} {w : World} (hm : P.follows .mixedOrders = true) (m : Nat) (S : List Keep) (hS : S.length = m) (hml : m ≤ l.length) (hB : ancOk l (ancAll l []) = true) (hT : tailOk l m = true)
    (steps : ∀ vs, invSteps P l (fun w' => Ext w w') S vs l S 0 a)
    (post : ∀ (vs : Nat → Value) w', Ext w w' → (∀ (j : Nat) (s : Keep), S[j]? = some s → s.J (vs j) w') → wpList P l.toArray Q (l.drop m) (lexGo vs l S 0 a) w') : (Code.region id l.toArray true).wp P Q a w := by
  refine wp_region_any hm ?_
  have post : ∀ (vs : Nat → Value) w', Ext w w' → (∀ (j : Nat) (s : Keep), S[j]? = some s → s.J (vs j) w') → wpList P l.toArray Q (l.drop m) (lexN l (vsAt S vs) a m) w' := fun vs w' h1 h2 => by
    have := post vs w' h1 h2
    rw [show lexGo vs l S 0 a = lexN l (vsAt S vs) a (0 + S.length) from lexGo_eq l S 0 (fun j => by rw [Nat.zero_add]) (fun j => by rw [Nat.zero_add]) (by omega), Nat.zero_add, hS] at this
    exact this
  have hz : ∀ j, j < l.length → (Array.replicate l.toArray.size false).getD j true = false := fun j hj => by simp [Array.getD_eq_getD_getElem?, hj]
  have hc : cntF m (fun i => (Array.replicate l.toArray.size false).getD i true) = m := by
    have : ∀ n, n ≤ l.length → cntF n (fun i => (Array.replicate l.toArray.size false).getD i true) = n := by
      intro n
      induction n with
      | zero => intro _; rfl
      | succ n ih =>
        intro hn
        simp only [cntF, ih (by omega), hz n (by omega)]
        simp
    exact this m hml
  have := wpAny_inv hS hml hB hT (F := fun w' => Ext w w') (fun _ _ h h' => h'.trans h) steps post m (Array.replicate l.toArray.size false) (fun _ => undef) a { w with drawn := w.drawn + 1 } (by simp) hc (fun i _ hi => hz i hi) ?_ ?_ (Ext.drew w) ?_
  · rw [show m + (l.length - m) = l.toArray.size by simp; omega] at this
    exact this
  · intro i A hi
    simp [Array.getElem?_replicate] at hi
  · refine ⟨rfl, fun t => ?_⟩
    cases hj : dstOf l t with
    | none => rfl
    | some j =>
      obtain ⟨o, ho, _⟩ := dstOf_some hj
      have : j < l.length := (List.getElem?_eq_some_iff.1 ho).1
      simp [Array.getD_eq_getD_getElem?, this]
  · intro j s hj
    simp [Array.getElem?_replicate] at hj

/-- .. where all operations are such. -/
theorem wp_region_inv {id : Nat} {l : List Oper} {Q : Exit → Act → World → Prop} {a : Act} {w : World} (hm : P.follows .mixedOrders = true) (S : List Keep) (hS : l.length = S.length) (hB : ancOk l (ancAll l []) = true)
    (steps : ∀ vs, invSteps P l (fun w' => Ext w w') S vs l S 0 a)
    (post : ∀ (vs : Nat → Value) w', Ext w w' → (∀ (j : Nat) (s : Keep), S[j]? = some s → s.J (vs j) w') → Q .normal (lexGo vs l S 0 a) w') : (Code.region id l.toArray true).wp P Q a w := by
  refine wp_region_tail hm l.length S hS.symm (Nat.le_refl _) hB ?_ steps fun vs w' h1 h2 => ?_
  · have : Region.ready .any l.toArray (Array.replicate l.length true ++ Array.replicate (l.length - l.length) false) = [] := by
      rw [List.eq_nil_iff_forall_not_mem]
      intro j hj
      have h1 := ready_bounds hj
      have h2 := (mem_ready.1 hj).1
      simp at h1
      simp [Array.getD_eq_getD_getElem?, h1] at h2
    simp only [tailOk, Nat.sub_self, Region.seqB, Bool.and_eq_true, List.all_eq_true]
    refine ⟨fun t ht => ?_, by rw [Nat.sub_self] at this; rw [this]; rfl⟩
    have : t < l.length := by simpa using ht
    simp [this]
  · rw [List.drop_length]; exact post vs w' h1 h2
end
end Go
