/- Several texts of mine in one: Tools, Reads, Own, CodeMath, WordMath, ApplyMath, SrcMath, FstMath, UndoMath, PermMath, RingMath, BalMath, PermMathB, GrowMath, HedMath, MooreMath, MyhillMath, LinkMath, CodesMath. -/
import Derived.WalkKit
import Derived.WalkSpells
import Derived.Orders
import Derived.Still
import Derived.StillTail
import Derived.Deep.QuietTactic
import Derived.BigQuiet
import Derived.ProofKit
import Derived.OpenShut
import Derived.ShutString
import Derived.ChangeOld
import Derived.Lib.SmallJoins
import Derived.Deep.Matrix
import Derived.Deep.Fields
import Derived.Deep.OwnRows
import Derived.Laws.IdiomStrings
import Derived.Laws.BytesArg
import Derived.Lib.Hide
import Derived.Lib.Strings
import Derived.Lib.Repeat
/- General tools: a region that asks the tape for its order, walked once, where each operation only makes new memory; small facts on worlds. No dump is imported. -/
namespace Go
open Go.RowKit

/-- Nothing that is there has turned. -/
def Ext (w w' : World) : Prop := Below w.heap.size w w'

theorem Ext.refl (w : World) : Ext w w := Below.refl _ _
theorem Ext.trans {a b c : World} (h : Ext a b) (k : Ext b c) : Ext a c :=
  Below.trans h (Below.mono k (Below.size h))
theorem Ext.below {B : Nat} {a b : World} (h : Ext a b) (hB : B ≤ a.heap.size) : Below B a b := Below.mono h hB
theorem Ext.drew (w : World) : Ext w w.drew := (Below.refl _ _).drew
theorem Ext.alloc (w : World) (o : Obj) : Ext w (w.alloc o) := (Below.refl _ _).alloc (Nat.le_refl _) o

theorem Ext.drewN {a w : World} (h : Ext a w) (n : Nat) : Ext a (w.drewN n) :=
  Below.trans (b := w) h ⟨rfl, rfl, rfl, Nat.le_refl _, fun _ _ => rfl⟩

/-- A callee's contract that leaves the world alone, met in a quiet region. -/
theorem Calls.quiet_is {P : Program} {f : FuncId} {args : Array Value} {w : World} {n : Nat} {v : Value}
    (h : Calls P f args (w.drewN n) fun e w' => e = .returned v ∧ w.drewN n = w') : Calls P f args (w.drewN n) fun e w'' => e = .returned v ∧ ∃ m, w'' = w.drewN m :=
  h.mono fun _ _ ⟨he, hm⟩ => ⟨he, n, hm.symm⟩

/-- What is said of a slot's value, and stays true while memory grows. -/
structure Keep where
  J : Value → World → Prop
  ok : ∀ v w w', Ext w w' → J v w → J v w'
  val : Option Value
  hval : ∀ c, val = some c → ∀ v w, J v w → v = c

@[go_sem] def Keep.known (c : Value) : Keep := ⟨fun v _ => v = c, fun _ _ _ _ h => h, some c, fun _ e _ _ h => h.trans (Option.some.inj e)⟩
@[go_sem] def Keep.any : Keep := ⟨fun _ _ => True, fun _ _ _ _ h => h, none, fun _ e => by cases e⟩
@[go_sem] def Keep.such (J : Value → World → Prop) (ok : ∀ v w w', Ext w w' → J v w → J v w') : Keep := ⟨J, ok, none, fun _ e => by cases e⟩
/-- the value, where it is known beforehand -/
@[go_sem] def Keep.at (s : Keep) (v : Value) : Value := s.val.getD v
theorem Keep.at_eq (s : Keep) {v : Value} {w : World} (h : s.J v w) : s.at v = v := by
  unfold Keep.at
  cases hc : s.val with
  | none => rfl
  | some c => exact (s.hval c hc v w h).symm

@[go_sem] theorem Ext.refl_iff (w : World) : Ext w w ↔ True := ⟨fun _ => trivial, fun _ => Ext.refl w⟩
theorem Ext.cell_some {w w' : World} (h : Ext w w') {a : Addr} {v : Value} (hc : w.cell? a = some v) : w'.cell? a = some v :=
  (Below.cell h (World.block_lt_of_cell? w a hc)).trans hc

/-- a slice over one new cell that holds x -/
def BoxOf (x : Value) (v : Value) (w : World) : Prop := ∃ b, v = .slice (some ⟨b, 0, none⟩) 1 1 ∧ w.cell? ⟨b, 0, none⟩ = some x
@[go_sem] def Keep.box (x : Value) : Keep := ⟨BoxOf x, fun _ _ _ hx ⟨b, h1, h2⟩ => ⟨b, h1, Ext.cell_some hx h2⟩, none, fun _ e => by cases e⟩
theorem boxOf_new (x : Value) (w : World) (E : TypeId) : Ext w (w.alloc (.cells #[x] E)) ∧ BoxOf x (.slice (some ⟨w.heap.size, 0, none⟩) 1 1) (w.alloc (.cells #[x] E)) :=
  ⟨Ext.alloc _ _, w.heap.size, rfl, by simp⟩

/-! ### Counting what is left -/

def cntF : Nat → (Nat → Bool) → Nat
  | 0, _ => 0
  | n + 1, L => cntF n L + (if L n then 0 else 1)

theorem cntF_zero : ∀ {n : Nat} {L : Nat → Bool}, cntF n L = 0 → ∀ i, i < n → L i = true
  | 0, _, _, i, hi => absurd hi (Nat.not_lt_zero _)
  | n + 1, L, h, i, hi => by
    simp only [cntF] at h
    have h1 : cntF n L = 0 := by omega
    by_cases hin : i < n
    · exact cntF_zero h1 i hin
    · have : i = n := by omega
      subst this
      cases hL : L i
      · simp [hL] at h
      · rfl

theorem cntF_congr : ∀ {n : Nat} {L L' : Nat → Bool}, (∀ j, j < n → L j = L' j) → cntF n L = cntF n L'
  | 0, _, _, _ => rfl
  | n + 1, L, L', h => by
    simp only [cntF]
    rw [cntF_congr (n := n) (fun j hj => h j (by omega)), h n (by omega)]

theorem cntF_set : ∀ {n i : Nat} {L L' : Nat → Bool}, i < n → L i = false → L' i = true → (∀ j, j ≠ i → L' j = L j) → cntF n L' + 1 = cntF n L
  | 0, _, _, _, hi, _, _, _ => absurd hi (Nat.not_lt_zero _)
  | n + 1, i, L, L', hi, h0, h1, h => by
    simp only [cntF]
    by_cases hin : i < n
    · have := cntF_set hin h0 h1 h
      rw [h n (by omega)]
      omega
    · have : i = n := by omega
      subst this
      rw [cntF_congr (n := i) (L := L') (L' := L) (fun j hj => h j (by omega)), h0, h1]
      simp

section
variable {P : Program}

/-- What an operation leaves behind: its value keeps what is said of it, and memory has only grown. -/
@[go_sem] def Oper.leaves (P : Program) (I : Value → World → Prop) (w : World) : Result Next → Prop
  | .ok (.value u) w' => Ext w w' ∧ I u w'
  | .ok .skip w' => Ext w w' ∧ I undef w'
  | .ok (.enter f args) w' => Ext w w' ∧ Calls P f args w' (fun e w'' => ∃ v, e = .returned v ∧ Ext w' w'' ∧ I v w'')
  | _ => False

@[go_sem] def Oper.leavesAt (P : Program) (I : Value → World → Prop) (o : Oper) (c : Act) (w : World) : Prop := Oper.leaves P I w ((execOp c.eval o).run P w)

/-- The place of the operation that writes a slot. -/
def dstOf (l : List Oper) (t : Nat) : Option Nat := l.findIdx? (fun o => o.dst == some t)

theorem dstOf_some {l : List Oper} {t : Nat} {j : Nat} (h : dstOf l t = some j) : ∃ o, l[j]? = some o ∧ o.dst = some t := by
  unfold dstOf at h
  obtain ⟨hj, hp, _⟩ := List.findIdx?_eq_some_iff_getElem.1 h
  exact ⟨l[j], by simp [hj], by simpa using hp⟩

/-- One operation of a region, and the places of those that surely come before it. -/
def ancOk1 (l : List Oper) (anc : List (List Nat)) (i : Nat) (o : Oper) (A : List Nat) : Bool :=
  (match o.dst with | some d => dstOf l d == some i | none => true) &&
  (o.looksAt l.toArray).all (fun t => match dstOf l t with | some j => A.contains j || ((anc[j]?).getD []).contains i | none => true) &&
  A.all (fun j => decide (j < l.length) && o.after.any (fun e => Region.binds .any e && (e.on == j || ((anc[e.on]?).map (·.contains j)).getD false))) &&
  o.after.all (fun e => !Region.binds .any e || decide (e.on < i))

def ancOk (l : List Oper) (anc : List (List Nat)) : Bool :=
  (l.length == anc.length) && Region.noSelect l.toArray &&
  (List.range l.length).all fun i => match l[i]?, anc[i]? with
    | some o, some A => ancOk1 l anc i o A
    | _, _ => false

/-- The forerunners of each operation, by the edges. -/
def ancAll : List Oper → List (List Nat) → List (List Nat)
  | [], acc => acc
  | o :: rest, acc => ancAll rest (acc ++ [o.after.toList.foldl (fun s e => if Region.binds .any e then (e.on :: acc.getD e.on []).foldl (fun s j => if s.contains j then s else j :: s) s else s) []])

def ancB (l : List Oper) (i j : Nat) : Bool := ((ancAll l [])[i]?.getD []).contains j

theorem ancOk_at {l : List Oper} {anc : List (List Nat)} (h : ancOk l anc = true) {i : Nat} {o : Oper} (hi : l[i]? = some o) :
    ∃ A, anc[i]? = some A ∧ ancOk1 l anc i o A = true := by
  simp only [ancOk, Bool.and_eq_true, List.all_eq_true] at h
  have hlt : i < l.length := (List.getElem?_eq_some_iff.1 hi).1
  have := h.2 i (by simpa using hlt)
  rw [hi] at this
  cases ha : anc[i]? with
  | none => simp [ha] at this
  | some A => exact ⟨A, rfl, by simpa [ha] using this⟩

/-- The frame when all before place m are done, in the text's order. -/
def lexN (l : List Oper) (vs : Nat → Value) (a : Act) : Nat → Act
  | 0 => a
  | m + 1 => (lexN l vs a m).put ((l[m]?).bind (·.dst)) (vs m)

/-- A frame in which just the operations of L are done. -/
def Agrees (l : List Oper) (a : Act) (vs : Nat → Value) (L : Nat → Bool) (c : Act) : Prop :=
  c.defers = a.defers ∧ ∀ t : Nat, c.tmps[t]? = match dstOf l t with
    | some j => if L j = true then (if t < a.tmps.size then some (vs j) else none) else a.tmps[t]?
    | none => a.tmps[t]?

theorem Act.put_at (c : Act) (d : Nat) (v : Value) (t : Nat) : (c.put (some d) v).tmps[t]? = if t = d then (if t < c.tmps.size then some v else none) else c.tmps[t]? := by
  simp only [Act.put, Array.getElem?_setIfInBounds]
  by_cases h : d = t
  · subst h; simp
  · simp [h, Ne.symm h]

theorem Agrees.size {l : List Oper} {a c : Act} {vs : Nat → Value} {L : Nat → Bool} (h : Agrees l a vs L c) (t : Nat) : t < c.tmps.size ↔ t < a.tmps.size := by
  have := h.2 t
  cases hd : dstOf l t with
  | none =>
    simp only [hd] at this
    by_cases h1 : t < c.tmps.size
    · rw [Array.getElem?_eq_getElem h1] at this
      have := (Array.getElem?_eq_some_iff.1 this.symm).1
      simp [h1, this]
    · rw [Array.getElem?_eq_none (by omega)] at this
      have := Array.getElem?_eq_none_iff.1 this.symm
      omega
  | some j =>
    simp only [hd] at this
    by_cases hL : L j = true
    · simp only [hL, if_true] at this
      by_cases h1 : t < c.tmps.size
      · rw [Array.getElem?_eq_getElem h1] at this
        by_cases h2 : t < a.tmps.size
        · simp [h1, h2]
        · simp [h2] at this
      · rw [Array.getElem?_eq_none (by omega)] at this
        by_cases h2 : t < a.tmps.size
        · simp [h2] at this
        · omega
    · simp only [hL] at this
      by_cases h1 : t < c.tmps.size
      · rw [Array.getElem?_eq_getElem h1] at this
        have := (Array.getElem?_eq_some_iff.1 this.symm).1
        simp [h1, this]
      · rw [Array.getElem?_eq_none (by omega)] at this
        have := Array.getElem?_eq_none_iff.1 (this.symm)
        omega

/-- One more operation is done. -/
theorem Agrees.step {l : List Oper} {anc : List (List Nat)} (hB : ancOk l anc = true) {a c : Act} {vs vs' : Nat → Value} {L L' : Nat → Bool} {i : Nat} {o : Oper} (hi : l[i]? = some o) (v : Value)
    (h : Agrees l a vs L c) (hL : ∀ j, j ≠ i → L' j = L j) (hLi : L' i = true) (hv : vs' i = v) (hvs : ∀ j, j ≠ i → vs' j = vs j) : Agrees l a vs' L' (c.put o.dst v) := by
  obtain ⟨A, hA, hok⟩ := ancOk_at hB hi
  simp only [ancOk1, Bool.and_eq_true] at hok
  have hdst := hok.1.1.1
  refine ⟨by cases o.dst <;> exact h.1, fun t => ?_⟩
  have hsz := h.size t
  have ht := h.2 t
  cases hd : o.dst with
  | none =>
    show c.tmps[t]? = _
    rw [ht]
    cases hj : dstOf l t with
    | none => rfl
    | some j =>
      have hji : j ≠ i := fun e => by
        subst e
        obtain ⟨o', ho', hd'⟩ := dstOf_some hj
        rw [hi] at ho'; cases ho'; rw [hd] at hd'; cases hd'
      simp only [hL j hji, hvs j hji]
  | some d =>
    rw [hd] at hdst
    have hdi : dstOf l d = some i := by simpa using hdst
    rw [Act.put_at]
    by_cases htd : t = d
    · subst htd
      rw [if_pos rfl, hdi]
      simp only [hLi, if_true, hv]
      by_cases h1 : t < c.tmps.size
      · simp [h1, hsz.1 h1]
      · have : ¬ t < a.tmps.size := fun h2 => h1 (hsz.2 h2)
        simp [h1, this]
    · rw [if_neg htd, ht]
      cases hj : dstOf l t with
      | none => rfl
      | some j =>
        have hji : j ≠ i := fun e => by
          subst e
          obtain ⟨o', ho', hd'⟩ := dstOf_some hj
          rw [hi] at ho'; cases ho'; rw [hd] at hd'
          exact htd (Option.some.inj hd').symm
        simp only [hL j hji, hvs j hji]

theorem Agrees.lex {l : List Oper} {anc : List (List Nat)} (hB : ancOk l anc = true) (a : Act) (vs : Nat → Value) : ∀ m, m ≤ l.length → Agrees l a vs (fun j => decide (j < m)) (lexN l vs a m)
  | 0, _ => ⟨rfl, fun t => by cases dstOf l t <;> simp [lexN]⟩
  | m + 1, hm => by
    have hi : l[m]? = some l[m] := List.getElem?_eq_getElem (by omega)
    have := Agrees.step hB hi (vs m) (Agrees.lex hB a vs m (by omega)) (vs' := vs) (L' := fun j => decide (j < m + 1)) (fun j hj => by simp only [decide_eq_decide]; omega) (by simp) rfl (fun _ _ => rfl)
    simpa [lexN, hi] using this

theorem Agrees.congr {l : List Oper} {a c : Act} {vs vs' : Nat → Value} {L L' : Nat → Bool} (h : Agrees l a vs L c) (hL : ∀ j o, l[j]? = some o → L j = L' j) (hv : ∀ j, L j = true → vs j = vs' j) : Agrees l a vs' L' c := by
  refine ⟨h.1, fun t => ?_⟩
  rw [h.2 t]
  cases hj : dstOf l t with
  | none => rfl
  | some j =>
    obtain ⟨o, ho, _⟩ := dstOf_some hj
    simp only [← hL j o ho]
    by_cases hl : L j = true
    · simp only [hl, if_true, hv j hl]
    · simp only [hl, Bool.false_eq_true, if_false]

theorem Agrees.unique {l : List Oper} {a c c' : Act} {vs : Nat → Value} {L : Nat → Bool} (h : Agrees l a vs L c) (h' : Agrees l a vs L c') : c = c' := by
  obtain ⟨t, d⟩ := c
  obtain ⟨t', d'⟩ := c'
  have h1 : d = d' := h.1.trans h'.1.symm
  have h2 : t = t' := Array.ext_getElem? fun i => (h.2 i).trans (h'.2 i).symm
  subst h1; subst h2; rfl

/-- What an operation looks at reads alike where its forerunners are done, and none of those that wait for it. -/
theorem Agrees.sees {l : List Oper} {anc : List (List Nat)} (hB : ancOk l anc = true) {a c c' : Act} {vs : Nat → Value} {L L' : Nat → Bool} {i : Nat} {o : Oper} {A : List Nat} (hi : l[i]? = some o) (hA : anc[i]? = some A)
    (h : Agrees l a vs L c) (h' : Agrees l a vs L' c') (hL : ∀ j ∈ A, L j = true) (hL' : ∀ j ∈ A, L' j = true) (hN : ∀ j B, anc[j]? = some B → i ∈ B → L j = false) (hN' : ∀ j B, anc[j]? = some B → i ∈ B → L' j = false) : ∀ t ∈ o.looksAt l.toArray, c.tmps[t]? = c'.tmps[t]? := by
  intro t ht
  obtain ⟨A', hA', hok⟩ := ancOk_at hB hi
  rw [hA] at hA'; cases hA'
  simp only [ancOk1, Bool.and_eq_true, List.all_eq_true] at hok
  have := hok.1.1.2 t ht
  rw [h.2 t, h'.2 t]
  cases hj : dstOf l t with
  | none => rfl
  | some j =>
    rw [hj] at this
    simp only [Bool.or_eq_true] at this
    rcases this with this | this
    · have hjA : j ∈ A := by simpa using this
      simp only [hL j hjA, hL' j hjA]
    · cases hB' : anc[j]? with
      | none => rw [hB'] at this; simp at this
      | some B =>
        rw [hB'] at this
        have hiB : i ∈ B := by simpa using this
        simp only [hN j B hB' hiB, hN' j B hB' hiB, Bool.false_eq_true, if_false]

/-- A forerunner stands ahead. -/
theorem anc_lt {l : List Oper} {anc : List (List Nat)} (hB : ancOk l anc = true) : ∀ (n i : Nat), i ≤ n → ∀ o A, l[i]? = some o → anc[i]? = some A → ∀ j ∈ A, j < i := by
  intro n
  induction n with
  | zero =>
    intro i hin o A hol hA j hj
    obtain ⟨A', hA', hok'⟩ := ancOk_at hB hol
    rw [hA] at hA'; cases hA'
    simp only [ancOk1, Bool.and_eq_true, List.all_eq_true, Array.any_eq_true, Array.all_eq_true_iff_forall_mem] at hok'
    obtain ⟨k, hk, he⟩ := (hok'.1.2 j hj).2
    have hlt := hok'.2 _ (Array.getElem_mem hk)
    simp [he.1] at hlt
    omega
  | succ n ihn =>
    intro i hin o A hol hA j hj
    obtain ⟨A', hA', hok'⟩ := ancOk_at hB hol
    rw [hA] at hA'; cases hA'
    simp only [ancOk1, Bool.and_eq_true, List.all_eq_true, Array.any_eq_true, Array.all_eq_true_iff_forall_mem] at hok'
    obtain ⟨k, hk, he⟩ := (hok'.1.2 j hj).2
    have hlt := hok'.2 _ (Array.getElem_mem hk)
    simp only [Bool.or_eq_true] at he
    simp [he.1] at hlt
    rcases he.2 with he | he
    · have : (o.after[k]'hk).on = j := by simpa using he
      omega
    · cases hB' : anc[(o.after[k]'hk).on]? with
      | none => rw [hB'] at he; simp at he
      | some B =>
        rw [hB'] at he
        have hlt' : (o.after[k]'hk).on < l.length := by
          have := (List.getElem?_eq_some_iff.1 hol).1
          omega
        have := ihn (o.after[k]'hk).on (by omega) l[(o.after[k]'hk).on] B (List.getElem?_eq_getElem hlt') hB' j (by simpa using he)
        omega

theorem execOp_sees {ops : Array Oper} (o : Oper) (hs : ∀ cs b, o.op ≠ .select cs b) {c c' : Act} (h : ∀ t ∈ o.looksAt ops, c.tmps[t]? = c'.tmps[t]?) : execOp c.eval o = execOp c'.eval o :=
  execOp_congr o hs fun x hx => by
    cases x with
    | tmp t =>
      have := h t (List.mem_append_left _ (List.mem_filterMap.2 ⟨.tmp t, by simpa using hx, rfl⟩))
      simp only [Act.eval, Array.getD_eq_getD_getElem?, this]
    | _ => rfl

theorem wanted_sees {ops : Array Oper} (o : Oper) {c c' : Act} (h : ∀ t ∈ o.looksAt ops, c.tmps[t]? = c'.tmps[t]?) : Region.wanted o (yielded ops c.tmps) = Region.wanted o (yielded ops c'.tmps) := by
  unfold Region.wanted
  cases hg : o.guard with
  | none => rfl
  | some gw =>
    obtain ⟨g, want⟩ := gw
    have hy : yielded ops c.tmps g = yielded ops c'.tmps g := by
      unfold yielded
      cases ht : (ops[g]?).bind (·.dst) with
      | none => rfl
      | some t =>
        have := h t (by simp [Oper.looksAt, hg, ht])
        simp only [Option.bind_some, this]
    simp only [hy]

/-- What of the slots is known, in a place. -/
def vsAt (S : List Keep) (vs : Nat → Value) (j : Nat) : Value := ((S[j]?).map (fun s => s.at (vs j))).getD (vs j)

/-- A region's operations in the text's order, each with what is said of its value. -/
def invSteps (P : Program) (ops : List Oper) (F : World → Prop) (S : List Keep) (vs : Nat → Value) : List Oper → List Keep → Nat → Act → Prop
  | o :: rest, s :: srest, i, c =>
    (∀ w', F w' → (∀ j, ancB ops i j = true → ((S[j]?).map (fun s => s.J (vs j) w')).getD True) → if Region.wanted o (yielded ops.toArray c.tmps) = true then o.leavesAt P s.J c w' else s.J undef w') ∧
    invSteps P ops F S vs rest srest (i + 1) (c.put o.dst (s.at (vs i)))
  | _, _, _, _ => True

theorem invSteps_at {F : World → Prop} {S0 : List Keep} {vs : Nat → Value} {l0 : List Oper} {a : Act} : ∀ (l : List Oper) (S : List Keep) (k : Nat),
    (∀ j, l[j]? = l0[k + j]?) → (∀ j, S[j]? = S0[k + j]?) → invSteps P l0 F S0 vs l S k (lexN l0 (vsAt S0 vs) a k) → ∀ i o s, l[i]? = some o → S[i]? = some s →
    ∀ w', F w' → (∀ j, ancB l0 (k + i) j = true → ((S0[j]?).map (fun s => s.J (vs j) w')).getD True) →
      if Region.wanted o (yielded l0.toArray (lexN l0 (vsAt S0 vs) a (k + i)).tmps) = true then o.leavesAt P s.J (lexN l0 (vsAt S0 vs) a (k + i)) w' else s.J undef w'
  | [], _, _, _, _, _, i, o, s, hi, _ => by simp at hi
  | o' :: l, [], _, _, _, _, i, o, s, _, hs => by simp at hs
  | o' :: l, s' :: S, k, hl, hS, h, 0, o, s, hi, hs => by
    simp only [List.getElem?_cons_zero, Option.some.injEq] at hi hs
    subst hi; subst hs
    exact h.1
  | o' :: l, s' :: S, k, hl, hS, h, i + 1, o, s, hi, hs => by
    have h0 : l0[k]? = some o' := by simpa using (hl 0).symm
    have s0 : S0[k]? = some s' := by simpa using (hS 0).symm
    have := invSteps_at l S (k + 1) (fun j => by have := hl (j + 1); simpa [Nat.add_assoc, Nat.add_comm 1 j] using this) (fun j => by have := hS (j + 1); simpa [Nat.add_assoc, Nat.add_comm 1 j] using this)
      (by simpa [lexN, h0, vsAt, s0] using h.2) i o s (by simpa using hi) (by simpa using hs)
    have e : k + 1 + i = k + (i + 1) := by omega
    rw [e] at this
    exact this

/-- The frame behind the region. -/
def lexGo (vs : Nat → Value) : List Oper → List Keep → Nat → Act → Act
  | o :: rest, s :: srest, i, c => lexGo vs rest srest (i + 1) (c.put o.dst (s.at (vs i)))
  | _, _, _, c => c
@[go_sem] theorem lexGo_cons (vs : Nat → Value) (o : Oper) (rest : List Oper) (s : Keep) (srest : List Keep) (i : Nat) (c : Act) : lexGo vs (o :: rest) (s :: srest) i c = lexGo vs rest srest (i + 1) (c.put o.dst (s.at (vs i))) := rfl
@[go_sem] theorem lexGo_nil (vs : Nat → Value) (l : List Oper) (i : Nat) (c : Act) : lexGo vs l [] i c = c := by cases l <;> rfl

theorem lexGo_eq {S0 : List Keep} {vs : Nat → Value} {l0 : List Oper} {a : Act} : ∀ (l : List Oper) (S : List Keep) (k : Nat),
    (∀ j, l[j]? = l0[k + j]?) → (∀ j, S[j]? = S0[k + j]?) → S.length ≤ l.length → lexGo vs l S k (lexN l0 (vsAt S0 vs) a k) = lexN l0 (vsAt S0 vs) a (k + S.length)
  | l, [], _, _, _, _ => by rw [lexGo_nil]; rfl
  | [], _ :: _, _, _, _, h => by simp at h
  | o :: l, s :: S, k, hl, hS, h => by
    have h0 : l0[k]? = some o := by simpa using (hl 0).symm
    have s0 : S0[k]? = some s := by simpa using (hS 0).symm
    have := lexGo_eq (vs := vs) (l0 := l0) (S0 := S0) (a := a) l S (k + 1) (fun j => by have := hl (j + 1); simpa [Nat.add_assoc, Nat.add_comm 1 j] using this) (fun j => by have := hS (j + 1); simpa [Nat.add_assoc, Nat.add_comm 1 j] using this) (by simpa using h)
    have e : k + (s :: S).length = k + 1 + S.length := by simp; omega
    rw [e, ← this]
    simp [lexGo, lexN, h0, vsAt, s0]

theorem ready_bounds {ops : Array Oper} {md : Region.Mode} {listed : Array Bool} {j : Nat} (h : j ∈ Region.ready md ops listed) : j < ops.size := by
  obtain ⟨_, o, ho, _⟩ := mem_ready.1 h
  exact (Array.getElem?_eq_some_iff.1 ho).1

/-- Where nothing is ready, all is done. -/
theorem all_listed {l : List Oper} {anc : List (List Nat)} (hB : ancOk l anc = true) {listed : Array Bool} (hr : Region.ready .any l.toArray listed = []) : ∀ i, i < l.length → listed.getD i true = true := by
  intro i
  induction i using Nat.strongRecOn with
  | ind i ih =>
    intro hi
    cases hL : listed.getD i true with
    | true => rfl
    | false =>
      exfalso
      have ho : l[i]? = some l[i] := List.getElem?_eq_getElem hi
      obtain ⟨A, hA, hok⟩ := ancOk_at hB ho
      simp only [ancOk1, Bool.and_eq_true, Array.all_eq_true_iff_forall_mem] at hok
      have : i ∈ Region.ready .any l.toArray listed := mem_ready.2 ⟨hL, l[i], by simp, fun e he hb => by
        have h1 := hok.2 e he
        have hlt : e.on < i := by simpa [hb] using h1
        have h2 := ih e.on hlt (by omega)
        have hsz : i < listed.size := by
          rcases Nat.lt_or_ge i listed.size with h | h
          · exact h
          · simp [Array.getElem?_eq_none h] at hL
        have : e.on < listed.size := by omega
        simp [this] at h2 ⊢
        exact h2⟩
      rw [hr] at this
      cases this

/-- What stands from place m on comes behind all that stands ahead of it, in the text's order. -/
def tailOk (l : List Oper) (m : Nat) : Bool :=
  ((List.range l.length).all fun t => decide (t < m) || (List.range t).all fun j => ancB l t j) && Region.seqB .any l.toArray (l.length - m) m (Array.replicate m true ++ Array.replicate (l.length - m) false)

theorem wpAny_inv {l : List Oper} {S : List Keep} {m : Nat} (hS : S.length = m) (hml : m ≤ l.length) (hB : ancOk l (ancAll l []) = true) (hT : tailOk l m = true) {F : World → Prop} (hF : ∀ w w', Ext w w' → F w → F w') {a : Act} {Q : Exit → Act → World → Prop}
    (steps : ∀ vs, invSteps P l F S vs l S 0 a)
    (post : ∀ (vs : Nat → Value) w', F w' → (∀ (j : Nat) (s : Keep), S[j]? = some s → s.J (vs j) w') → wpList P l.toArray Q (l.drop m) (lexN l (vsAt S vs) a m) w') :
    ∀ (fuel : Nat) (listed : Array Bool) (vs : Nat → Value) (c : Act) (w : World), listed.size = l.length → cntF m (fun i => listed.getD i true) = fuel → (∀ i, m ≤ i → i < l.length → listed.getD i true = false) →
      (∀ (i : Nat) (A : List Nat), listed[i]? = some true → (ancAll l [])[i]? = some A → ∀ j ∈ A, listed[j]? = some true) →
      Agrees l a vs (fun j => listed.getD j true) c → F w → (∀ (j : Nat) (s : Keep), listed[j]? = some true → S[j]? = some s → s.J (vs j) w) → wpAny P .any l.toArray Q (fuel + (l.length - m)) listed c w := by
  -- what is known is what is there
  have known : ∀ (listed : Array Bool) (vs : Nat → Value) (w : World), (∀ (j : Nat) (s : Keep), listed[j]? = some true → S[j]? = some s → s.J (vs j) w) → ∀ j, listed[j]? = some true → vs j = vsAt S vs j := by
    intro listed vs w hI j hj
    unfold vsAt
    cases hs : S[j]? with
    | none => rfl
    | some s => exact (s.at_eq (hI j s hj hs)).symm
  have truth : ∀ {listed : Array Bool} {j : Nat}, listed.size = l.length → j < l.length → listed.getD j true = true → listed[j]? = some true := by
    intro listed j hsz hj h
    have h2 : j < listed.size := by omega
    simp [h2] at h ⊢
    exact h
  simp only [tailOk, Bool.and_eq_true, List.all_eq_true] at hT
  -- the end
  have fin : ∀ (listed : Array Bool) (vs : Nat → Value) (c : Act) (w : World), listed.size = l.length → (∀ i, i < m → listed.getD i true = true) → (∀ i, m ≤ i → i < l.length → listed.getD i true = false) → Agrees l a vs (fun j => listed.getD j true) c → F w →
      (∀ (j : Nat) (s : Keep), listed[j]? = some true → S[j]? = some s → s.J (vs j) w) → wpAny P .any l.toArray Q (l.length - m) listed c w := by
    intro listed vs c w hsz hall hrest hag hFw hI
    have kn := known listed vs w hI
    have e : c = lexN l (vsAt S vs) a m := by
      refine Agrees.unique (hag.congr (vs' := vsAt S vs) (L' := fun j => listed.getD j true) (fun _ _ _ => rfl) (fun j hj => ?_)) ((Agrees.lex hB a (vsAt S vs) m hml).congr (fun j o ho => ?_) (fun _ _ => rfl))
      · by_cases hlt : j < l.length
        · exact kn j (truth hsz hlt hj)
        · unfold vsAt
          rw [List.getElem?_eq_none (by omega)]
          rfl
      · have hj : j < l.length := (List.getElem?_eq_some_iff.1 ho).1
        by_cases hjm : j < m
        · simp only [hall j hjm]
          simpa using hjm
        · simp only [hrest j (by omega) hj]
          simpa using hjm
    have el : listed = Array.replicate m true ++ Array.replicate (l.length - m) false := by
      apply Array.ext
      · simp; omega
      · intro i h1 h2
        have hil : i < l.length := by omega
        by_cases him : i < m
        · have := truth hsz hil (hall i him)
          rw [Array.getElem?_eq_getElem h1] at this
          rw [Option.some.inj this]
          simp [him]
        · have := hrest i (by omega) hil
          simp [h1] at this
          rw [this]
          simp [Array.getElem_append, him]
    have hseq : Region.seqB .any l.toArray (l.drop m).length m listed = true := by
      rw [el, List.length_drop]; exact hT.2
    have := wpAny_of_seq (P := P) (Q' := Q) (ops := l.toArray) (l.drop m) m listed c w (fun j => by simp) hseq (by
      rw [e]
      refine post vs w hFw fun j s hs => hI j s ?_ hs
      have hj : j < S.length := (List.getElem?_eq_some_iff.1 hs).1
      exact truth hsz (by omega) (hall j (by omega)))
    rwa [List.length_drop] at this
  intro fuel
  induction fuel with
  | zero =>
    intro listed vs c w hsz hcnt hrest hcl hag hFw hI
    rw [Nat.zero_add]
    exact fin listed vs c w hsz (cntF_zero hcnt) hrest hag hFw hI
  | succ fuel ih =>
    intro listed vs c w hsz hcnt hrest hcl hag hFw hI
    rw [show fuel + 1 + (l.length - m) = (fuel + (l.length - m)) + 1 by omega]
    have hsome : ∃ i, i < m ∧ listed.getD i true = false := by
      apply Classical.byContradiction
      intro hno
      have : cntF m (fun i => listed.getD i true) = 0 := by
        have h0 : ∀ n, n ≤ m → cntF n (fun i => listed.getD i true) = 0 := by
          intro n
          induction n with
          | zero => intro _; rfl
          | succ n ihn =>
            intro hn
            have : listed.getD n true = true := by
              cases hv : listed.getD n true with
              | true => rfl
              | false => exact absurd ⟨n, by omega, hv⟩ hno
            simp only [cntF, ihn (by omega), this]
            simp
        exact h0 m (Nat.le_refl _)
      omega
    refine ⟨fun hr => ?_, fun i hi => ?_⟩
    · exfalso
      obtain ⟨i, him, hun⟩ := hsome
      have := all_listed hB hr i (by omega)
      rw [this] at hun; cases hun
    have hil : i < l.length := by simpa using ready_bounds hi
    obtain ⟨hun, o, ho, hafter⟩ := mem_ready.1 hi
    have hol : l[i]? = some o := by simpa using ho
    obtain ⟨A, hA, hok⟩ := ancOk_at hB hol
    simp only [ancOk1, Bool.and_eq_true, List.all_eq_true, Array.any_eq_true] at hok
    have hns : ∀ cs b, o.op ≠ .select cs b := by
      have := hB
      simp only [ancOk, Bool.and_eq_true] at this
      exact fun cs b => Region.noSelect_spec this.1.2 i o cs b ho
    -- its forerunners are done
    have hAl : ∀ j ∈ A, listed[j]? = some true := by
      intro j hj
      have h1 := (hok.1.2 j hj)
      obtain ⟨k, hk, he⟩ := h1.2
      simp only [Bool.or_eq_true] at he
      have hl := hafter _ (Array.getElem_mem hk) he.1
      have hl' : listed[(o.after[k]'hk).on]? = some true := by
        cases hx : listed[(o.after[k]'hk).on]? with
        | none => simp [Array.getD_eq_getD_getElem?, hx] at hl
        | some b => simp [Array.getD_eq_getD_getElem?, hx] at hl; rw [hl]
      rcases he.2 with he | he
      · have : (o.after[k]'hk).on = j := by simpa using he
        rw [← this]; exact hl'
      · cases hB' : (ancAll l [])[(o.after[k]'hk).on]? with
        | none => rw [hB'] at he; simp at he
        | some B => rw [hB'] at he; exact hcl _ B hl' hB' j (by simpa using he)
    have hAL : ∀ j ∈ A, listed.getD j true = true := fun j hj => by simp [Array.getD_eq_getD_getElem?, hAl j hj]
    have him : i < m := by
      rcases Nat.lt_or_ge i m with h | h
      · exact h
      · exfalso
        obtain ⟨k, hkm, hkun⟩ := hsome
        have h1 := hT.1 i (by simpa using hil)
        simp only [Bool.or_eq_true, decide_eq_true_eq, List.all_eq_true] at h1
        rcases h1 with h1 | h1
        · omega
        · have h2 := h1 k (by simp; omega)
          unfold ancB at h2
          rw [hA] at h2
          have h3 := hAL k (by simpa using h2)
          rw [h3] at hkun; cases hkun
    -- the step's own law
    have hs : ∃ s, S[i]? = some s := ⟨S[i]'(by omega), List.getElem?_eq_getElem (by omega)⟩
    obtain ⟨s, hs⟩ := hs
    have law := invSteps_at (l0 := l) l S 0 (fun j => by rw [Nat.zero_add]) (fun j => by rw [Nat.zero_add]) (steps vs) i o s hol hs w hFw (fun j hj => by
      have hjA : j ∈ A := by
        unfold ancB at hj
        rw [Nat.zero_add, hA] at hj
        simpa using hj
      have h1 := hAl j hjA
      cases hsj : S[j]? with
      | none => simp
      | some s' => simp only [Option.map_some, Option.getD_some]; exact hI j s' h1 hsj)
    rw [Nat.zero_add] at law
    have hag' : Agrees l a (vsAt S vs) (fun j => listed.getD j true) c := hag.congr (fun _ _ _ => rfl) (fun j hj => by
      by_cases hlt : j < l.length
      · exact known listed vs w hI j (truth hsz hlt hj)
      · unfold vsAt
        rw [List.getElem?_eq_none (by omega)]
        rfl)
    have hsees := Agrees.sees hB hol hA hag' ((Agrees.lex hB a (vsAt S vs) i (by omega))) hAL (fun j hj => by
      have := anc_lt hB i i (Nat.le_refl _) o A hol hA j hj
      simpa using this) (fun j B hjB hiB => by
      -- what waits for it isn't done
      cases hL : listed.getD j true with
      | false => rfl
      | true =>
        exfalso
        have hjl : j < l.length := by
          have h1 : (ancAll l []).length = l.length := by
            have := hB
            simp only [ancOk, Bool.and_eq_true] at this
            have h2 := this.1.1
            simpa using (beq_iff_eq.1 h2).symm
          have := (List.getElem?_eq_some_iff.1 hjB).1
          omega
        have h1 := hcl j B (truth hsz hjl hL) hjB i hiB
        simp [Array.getD_eq_getD_getElem?, h1] at hun) (fun j B hjB hiB => by
      have hjl : j < l.length := by
        have h1 : (ancAll l []).length = l.length := by
          have := hB
          simp only [ancOk, Bool.and_eq_true] at this
          have h2 := this.1.1
          simpa using (beq_iff_eq.1 h2).symm
        have := (List.getElem?_eq_some_iff.1 hjB).1
        omega
      have := anc_lt hB j j (Nat.le_refl _) l[j] B (List.getElem?_eq_getElem hjl) hjB i hiB
      simp; omega)
    -- what comes behind
    have next : ∀ v w', Ext w w' → s.J v w' → wpAny P .any l.toArray Q (fuel + (l.length - m)) (listed.setIfInBounds i true) (c.put o.dst v) w' := by
      intro v w' hext hJ
      have hset : ∀ j, j ≠ i → (listed.setIfInBounds i true)[j]? = listed[j]? := fun j hj => by rw [Array.getElem?_setIfInBounds_ne (Ne.symm hj)]
      have hseti : (listed.setIfInBounds i true)[i]? = some true := by simp [hsz, hil]
      refine ih (listed.setIfInBounds i true) (fun j => if j = i then v else vs j) (c.put o.dst v) w' (by simp [hsz]) ?_ (fun k hk hkl => by
        rw [Array.getD_eq_getD_getElem?, hset k (by omega), ← Array.getD_eq_getD_getElem?]; exact hrest k hk hkl) ?_ ?_ (hF _ _ hext hFw) ?_
      · have := cntF_set (n := m) (i := i) (L := fun j => listed.getD j true) (L' := fun j => (listed.setIfInBounds i true).getD j true) him hun
          (by simp [Array.getD_eq_getD_getElem?, hseti]) (fun j hj => by simp only [Array.getD_eq_getD_getElem?, hset j hj])
        omega
      · intro k B hk hB' j hj
        by_cases hki : k = i
        · subst hki
          rw [hA] at hB'; cases hB'
          by_cases hji : j = k
          · rw [hji]; exact hseti
          · rw [hset j hji]; exact hAl j hj
        · rw [hset k hki] at hk
          have := hcl k B hk hB' j hj
          by_cases hji : j = i
          · rw [hji]; exact hseti
          · rw [hset j hji]; exact this
      · exact Agrees.step hB hol v hag (fun j hj => by simp only [Array.getD_eq_getD_getElem?, hset j hj]) (by simp [Array.getD_eq_getD_getElem?, hseti]) (by simp) (fun j hj => by simp [hj])
      · intro j s' hj hs'
        by_cases hji : j = i
        · subst hji
          rw [hs] at hs'; cases hs'
          simpa using hJ
        · rw [hset j hji] at hj
          simp only [hji, if_false]
          exact s'.ok _ _ _ hext (hI j s' hj hs')
    unfold wpOp
    simp only [ho]
    rw [wanted_sees o hsees]
    split
    · rename_i hw
      rw [if_pos hw] at law
      refine .inl ?_
      unfold Oper.leavesAt at law
      unfold Oper.wp
      rw [execOp_sees o hns hsees]
      generalize (execOp (lexN l (vsAt S vs) a i).eval o).run P w = r at law ⊢
      cases r with
      | ok n w' =>
        cases n <;> simp only [Oper.leaves] at law <;> simp only [Oper.upon]
        case value u => exact next u w' law.1 law.2
        case skip => exact next undef w' law.1 law.2
        case enter f args =>
          refine law.2.mono fun e w'' he => ?_
          obtain ⟨v, rfl, hext, hJ⟩ := he
          exact next v w'' (law.1.trans hext) hJ
      | halt x w' => simp only [Oper.leaves] at law
    · rename_i hw
      rw [if_neg hw] at law
      exact next undef w (Ext.refl w) law

/-- **ONE WALK IN THE TEXT's ORDER SERVES EVERY ORDER**, where all but the last operations make new memory at most and turn none, and the last ones come behind all of these: of each slot it is said beforehand what will be known of its value, whatever was done before it. -/
theorem wp_region_tail {id : Nat} {l : List Oper} {Q : Exit → Act → World → Prop} {a : Act} {w : World} (hm : P.follows .mixedOrders = true) (m : Nat) (S : List Keep) (hS : S.length = m) (hml : m ≤ l.length) (hB : ancOk l (ancAll l []) = true) (hT : tailOk l m = true)
    (steps : ∀ vs, invSteps P l (fun w' => Ext w w') S vs l S 0 a)
    (post : ∀ (vs : Nat → Value) w', Ext w w' → (∀ (j : Nat) (s : Keep), S[j]? = some s → s.J (vs j) w') → wpList P l.toArray Q (l.drop m) (lexGo vs l S 0 a) w') : (Code.region id l.toArray true).wp P Q a w := by
  refine wp_region_any hm ?_
  have post : ∀ (vs : Nat → Value) w', Ext w w' → (∀ (j : Nat) (s : Keep), S[j]? = some s → s.J (vs j) w') → wpList P l.toArray Q (l.drop m) (lexN l (vsAt S vs) a m) w' := fun vs w' h1 h2 => by
    have := post vs w' h1 h2
    rw [show lexGo vs l S 0 a = lexN l (vsAt S vs) a (0 + S.length) from lexGo_eq l S 0 (fun j => by rw [Nat.zero_add]) (fun j => by rw [Nat.zero_add]) (by omega), Nat.zero_add, hS] at this
    exact this
  have hz : ∀ j, j < l.length → (Array.replicate l.toArray.size false).getD j true = false := fun j hj => by simp [Array.getD_eq_getD_getElem?, hj]
  have hc : cntF m (fun i => (Array.replicate l.toArray.size false).getD i true) = m := by
    have : ∀ n, n ≤ l.length → cntF n (fun i => (Array.replicate l.toArray.size false).getD i true) = n := by
      intro n
      induction n with
      | zero => intro _; rfl
      | succ n ih =>
        intro hn
        simp only [cntF, ih (by omega), hz n (by omega)]
        simp
    exact this m hml
  have := wpAny_inv hS hml hB hT (F := fun w' => Ext w w') (fun _ _ h h' => h'.trans h) steps post m (Array.replicate l.toArray.size false) (fun _ => undef) a { w with drawn := w.drawn + 1 } (by simp) hc (fun i _ hi => hz i hi) ?_ ?_ (Ext.drew w) ?_
  · rw [show m + (l.length - m) = l.toArray.size by simp; omega] at this
    exact this
  · intro i A hi
    simp [Array.getElem?_replicate] at hi
  · refine ⟨rfl, fun t => ?_⟩
    cases hj : dstOf l t with
    | none => rfl
    | some j =>
      obtain ⟨o, ho, _⟩ := dstOf_some hj
      have : j < l.length := (List.getElem?_eq_some_iff.1 ho).1
      simp [Array.getD_eq_getD_getElem?, this]
  · intro j s hj
    simp [Array.getElem?_replicate] at hj

/-- .. where all operations are such. -/
theorem wp_region_inv {id : Nat} {l : List Oper} {Q : Exit → Act → World → Prop} {a : Act} {w : World} (hm : P.follows .mixedOrders = true) (S : List Keep) (hS : l.length = S.length) (hB : ancOk l (ancAll l []) = true)
    (steps : ∀ vs, invSteps P l (fun w' => Ext w w') S vs l S 0 a)
    (post : ∀ (vs : Nat → Value) w', Ext w w' → (∀ (j : Nat) (s : Keep), S[j]? = some s → s.J (vs j) w') → Q .normal (lexGo vs l S 0 a) w') : (Code.region id l.toArray true).wp P Q a w := by
  refine wp_region_tail hm l.length S hS.symm (Nat.le_refl _) hB ?_ steps fun vs w' h1 h2 => ?_
  · have : Region.ready .any l.toArray (Array.replicate l.length true ++ Array.replicate (l.length - l.length) false) = [] := by
      rw [List.eq_nil_iff_forall_not_mem]
      intro j hj
      have h1 := ready_bounds hj
      have h2 := (mem_ready.1 hj).1
      simp at h1
      simp [Array.getD_eq_getD_getElem?, h1] at h2
    simp only [tailOk, Nat.sub_self, Region.seqB, Bool.and_eq_true, List.all_eq_true]
    refine ⟨fun t ht => ?_, by rw [Nat.sub_self] at this; rw [this]; rfl⟩
    have : t < l.length := by simpa using ht
    simp [this]
  · rw [List.drop_length]; exact post vs w' h1 h2
end
end Go

/- What a slice reads as; how an argument that came in is opened. No dump is imported. -/
namespace Go
open Go.RowKit Go.Joins Go.Deep Go.ChangeShapes Go.WideShapes Go.ChangeAt

/-- The slice v shows these cells. -/
def Reads (w : World) (v : Value) (fs : List Value) : Prop :=
  ∃ (a : Option Addr) (cap : Nat), v = .slice a fs.length cap ∧ fs.length ≤ cap ∧ cap ≤ maxLen ∧ ∀ i (h : i < fs.length), ∃ b o, a = some ⟨b, o, none⟩ ∧ w.cell? ⟨b, o + i, none⟩ = some fs[i]

theorem Reads.ext {w w' : World} {v : Value} {fs : List Value} (h : Reads w v fs) (hx : Ext w w') : Reads w' v fs := by
  obtain ⟨a, cap, hv, h1, h2, h3⟩ := h
  refine ⟨a, cap, hv, h1, h2, fun i hi => ?_⟩
  obtain ⟨b, o, ha, hc⟩ := h3 i hi
  exact ⟨b, o, ha, hx.cell_some hc⟩

/-- .. of numbers -/
def ReadsI (w : World) (v : Value) (xs : List Int) : Prop := Reads w v (xs.map (.int .i64))
theorem ReadsI.ext {w w' : World} {v : Value} {xs : List Int} (h : ReadsI w v xs) (hx : Ext w w') : ReadsI w' v xs := Reads.ext h hx

/-- The numbers fit the kind. -/
def InI64 (xs : List Int) : Prop := ∀ x ∈ xs, -9223372036854775808 ≤ x ∧ x ≤ 9223372036854775807

/-- .. of rows of numbers -/
def ReadsRows (w : World) (v : Value) (m : List (List Int)) : Prop :=
  ∃ vs : List Value, vs.length = m.length ∧ Reads w v vs ∧ ∀ i (h : i < m.length), ∃ u, vs[i]? = some u ∧ ReadsI w u m[i]
theorem ReadsRows.ext {w w' : World} {v : Value} {m : List (List Int)} (h : ReadsRows w v m) (hx : Ext w w') : ReadsRows w' v m := by
  obtain ⟨vs, h1, h2, h3⟩ := h
  refine ⟨vs, h1, h2.ext hx, fun i hi => ?_⟩
  obtain ⟨u, h4, h5⟩ := h3 i hi
  exact ⟨u, h4, h5.ext hx⟩

/-- .. of texts -/
def ReadsS (w : World) (v : Value) (ss : List ByteArray) : Prop := Reads w v (ss.map .string)
theorem ReadsS.ext {w w' : World} {v : Value} {ss : List ByteArray} (h : ReadsS w v ss) (hx : Ext w w') : ReadsS w' v ss := Reads.ext h hx

theorem i64_bounds {n : Int} (h : (Lit.int .i64 n).wf = true) : -9223372036854775808 ≤ n ∧ n ≤ 9223372036854775807 := by
  have := bounds_i64 h
  omega

theorem strip_cut (rest : List (List Char)) : stripLifts liftWords ("cut".toList :: rest) = ([], "cut".toList :: rest) := by rfl
theorem mayEnter_of {P : Program} (h : (behindMainWord (wordsSigns P.initOrder.toList)).head? = some "cut".toList) (h1 : P.laysLater = false) (h2 : P.bearsReflect = false) (h3 : P.doorFits [] = true) : P.mayEnter = true := by
  unfold Program.mayEnter
  cases hw : behindMainWord (wordsSigns P.initOrder.toList) with
  | nil => rw [hw] at h; cases h
  | cons c rest =>
    rw [hw] at h
    have hc : c = "cut".toList := Option.some.inj h
    subst hc
    simp only [strip_cut, h1, h2, h3]
    simp
theorem liftsFinal_of {P : Program} (h : (behindMainWord (wordsSigns P.initOrder.toList)).head? = some "cut".toList) : P.liftsFinal = false := by
  unfold Program.liftsFinal Program.headLifts
  cases hw : behindMainWord (wordsSigns P.initOrder.toList) with
  | nil => rw [hw] at h; cases h
  | cons c rest =>
    rw [hw] at h
    have hc : c = "cut".toList := Option.some.inj h
    subst hc
    simp only [strip_cut]
    simp
theorem make_of {P : Program} (h : (behindMainWord (wordsSigns P.initOrder.toList)).head? = some "cut".toList) : P.make = some .cut := by
  unfold Program.make
  cases hw : behindMainWord (wordsSigns P.initOrder.toList) with
  | nil => rw [hw] at h; cases h
  | cons c rest =>
    rw [hw] at h
    have hc : c = "cut".toList := Option.some.inj h
    subst hc
    simp

section
variable {H : Type} {enc : TypeId × Value → H} {P : Program} {w : World} {base : Nat} {held : Bool}

theorem cells_at {a : Addr} {n : Nat} {f : Nat → Value} (h : ∀ i, i < n → w.cell? (a.add i) = some (f i)) : ∀ i, i < n → ∃ b o, some a = some ⟨b, o, none⟩ ∧ w.cell? ⟨b, o + i, none⟩ = some (f i) := by
  intro i hi
  obtain ⟨b, o, spot⟩ := a
  have hs : spot = none := by simpa [Addr.add] using World.cell?_spot (h 0 (by omega))
  subst hs
  exact ⟨b, o, rfl, by have := h i hi; rwa [Go.WideShapes.add_plain] at this⟩

theorem code_of_trod {r : Reach} {b0 : Nat} {t : TypeId} {f0 f1 f2 : Field} {v : Value} {d : DataW H} {p : List MemPlace} (hs : P.underlying t = some (.struct #[f0, f1, f2])) (hi0 : P.underlying f0.type = some (.int .i64)) (hi1 : P.underlying f1.type = some (.int .i64)) (hs2 : P.underlying f2.type = some .string)
    (hone : oneCellFields P #[f0, f1, f2] = true) (hC : P.cellsOf t = 3)
    (hv : Value.okWide P w r b0 t v) (h : DataW.Trod enc P w base (fun _ => true) held t v d p) :
    ∃ (L W : Int) (x : ByteArray), v = .agg #[.int .i64 L, .int .i64 W, .string x] ∧ (-9223372036854775808 ≤ L ∧ L ≤ 9223372036854775807) ∧ (-9223372036854775808 ≤ W ∧ W ≤ 9223372036854775807) ∧ x.size ≤ maxLen := by
  obtain ⟨c0, c1, c2, y0, y1, y2, m, rfl, _, _, h0, h1, h2⟩ := open_agg3 hs hone hC hv h
  obtain ⟨a, e0, _, wa⟩ := DataW.trod_int hi0 h0
  obtain ⟨b, e1, _, wb⟩ := DataW.trod_int hi1 h1
  obtain ⟨x, e2, _, wx⟩ := DataW.trod_string hs2 h2
  simp at e0 e1 e2
  subst e0 e1 e2
  exact ⟨a, b, x, rfl, i64_bounds wa, i64_bounds wb, wx⟩

/-- a list of numbers that came in -/
theorem ints_of_trod {r : Reach} {b0 : Nat} {t e : TypeId} {v : Value} {d : DataW H} {p : List MemPlace} (ht : P.underlying t = some (.slice e)) (he : P.underlying e = some (.int .i64)) (hc : P.cellsOf e = 1)
    (hv : Value.okWide P w r b0 t v) (h : DataW.Trod enc P w base (fun _ => true) held t v d p) : ∃ xs : List Int, ReadsI w v xs ∧ InI64 xs := by
  obtain ⟨fuel, hf⟩ := h
  obtain ⟨a0, l0, c0, rfl⟩ := okWide_slice ht hv
  rcases open_ints ht he hc hf with ⟨hcs, _⟩ | ⟨a, len, cap, zs, hcs, _, hl, hm, hz, _, hcell, hw⟩
  · have hcs : Value.slice a0 l0 c0 = .slice none 0 0 := by simpa [Value.cells] using hcs
    rw [hcs]
    exact ⟨[], ⟨none, 0, rfl, Nat.le_refl _, Nat.zero_le _, fun i hi => by simp at hi⟩, fun x hx => by simp at hx⟩
  · have hcs : Value.slice a0 l0 c0 = .slice (some a) len cap := by simpa [Value.cells] using hcs
    rw [hcs]
    simp only [if_true] at hz
    have hlen : (zs.take len).length = len := by simp; omega
    refine ⟨zs.take len, ⟨some a, cap, by rw [List.length_map, hlen], by rw [List.length_map, hlen]; exact hl, hm, fun i hi => ?_⟩, fun x hx => i64_bounds (hw x (List.mem_of_mem_take hx))⟩
    have hi' : i < len := by rw [List.length_map, hlen] at hi; exact hi
    obtain ⟨b, o, h1, h2⟩ := cells_at hcell i (by omega)
    refine ⟨b, o, h1, ?_⟩
    rw [h2]
    simp [List.getD_eq_getElem?_getD, List.getElem?_eq_getElem (show i < zs.length by omega)]

/-- a list of texts that came in -/
theorem strings_of_trod {r : Reach} {b0 : Nat} {t e : TypeId} {v : Value} {d : DataW H} {p : List MemPlace} (ht : P.underlying t = some (.slice e)) (he : P.underlying e = some .string) (hc : P.cellsOf e = 1)
    (hv : Value.okWide P w r b0 t v) (h : DataW.Trod enc P w base (fun _ => true) held t v d p) : ∃ xs : List ByteArray, ReadsS w v xs ∧ ∀ s ∈ xs, s.size ≤ maxLen := by
  obtain ⟨fuel, hf⟩ := h
  obtain ⟨a0, l0, c0, rfl⟩ := okWide_slice ht hv
  rcases open_strings ht he hc hf with ⟨hcs, _⟩ | ⟨a, len, cap, zs, hcs, _, hl, hm, hz, _, hcell, hw⟩
  · have hcs : Value.slice a0 l0 c0 = .slice none 0 0 := by simpa [Value.cells] using hcs
    rw [hcs]
    exact ⟨[], ⟨none, 0, rfl, Nat.le_refl _, Nat.zero_le _, fun i hi => by simp at hi⟩, fun x hx => by simp at hx⟩
  · have hcs : Value.slice a0 l0 c0 = .slice (some a) len cap := by simpa [Value.cells] using hcs
    rw [hcs]
    simp only [if_true] at hz
    have hlen : (zs.take len).length = len := by simp; omega
    refine ⟨zs.take len, ⟨some a, cap, by rw [List.length_map, hlen], by rw [List.length_map, hlen]; exact hl, hm, fun i hi => ?_⟩, fun x hx => hw x (List.mem_of_mem_take hx)⟩
    have hi' : i < len := by rw [List.length_map, hlen] at hi; exact hi
    obtain ⟨b, o, h1, h2⟩ := cells_at hcell i (by omega)
    refine ⟨b, o, h1, ?_⟩
    rw [h2]
    simp [List.getD_eq_getElem?_getD, List.getElem?_eq_getElem (show i < zs.length by omega)]

/-- rows of numbers that came in -/
theorem rows_of_trod {r : Reach} {b0 : Nat} {t e q : TypeId} {v : Value} {d : DataW H} {p : List MemPlace} (ht : P.underlying t = some (.slice e)) (he : P.underlying e = some (.slice q)) (hq : P.underlying q = some (.int .i64)) (ce : P.cellsOf e = 1) (cq : P.cellsOf q = 1)
    (hv : Value.okWide P w r b0 t v) (h : DataW.Trod enc P w base (fun _ => true) held t v d p) : ∃ m : List (List Int), ReadsRows w v m ∧ ∀ xs ∈ m, InI64 xs := by
  obtain ⟨fuel, hf⟩ := h
  obtain ⟨a0, l0, c0, rfl⟩ := okWide_slice ht hv
  rcases open_int_rows ht he hq ce cq hf with ⟨hcs, _⟩ | ⟨a, len, cap, A, L, C, Z, hcs, _, hl, hm, _, hrow⟩
  · have hcs : Value.slice a0 l0 c0 = .slice none 0 0 := by simpa [Value.cells] using hcs
    rw [hcs]
    exact ⟨[], ⟨[], rfl, ⟨none, 0, rfl, Nat.le_refl _, Nat.zero_le _, fun i hi => by simp at hi⟩, fun i hi => by simp at hi⟩, fun x hx => by simp at hx⟩
  · have hcs : Value.slice a0 l0 c0 = .slice (some a) len cap := by simpa [Value.cells] using hcs
    rw [hcs]
    have hsl : ∀ i, i < cap → w.cell? (a.add i) = some (.slice (A i) (L i) (C i)) := fun i hi => (hrow i hi).1
    refine ⟨(List.range len).map fun i => (Z i).take (L i), ⟨(List.range len).map fun i => .slice (A i) (L i) (C i), by simp, ⟨some a, cap, by simp, by simpa using hl, hm, fun i hi => ?_⟩, fun i hi => ?_⟩, fun xs hxs => ?_⟩
    · have hi' : i < len := by simpa using hi
      obtain ⟨b, o, h1, h2⟩ := cells_at hsl i (by omega)
      exact ⟨b, o, h1, by rw [h2]; simp⟩
    · have hi' : i < len := by simpa using hi
      obtain ⟨_, r1, r2, r3, r4, r5, r6⟩ := hrow i (by omega)
      refine ⟨.slice (A i) (L i) (C i), by simp [hi'], ?_⟩
      have hlen : ((Z i).take (L i)).length = L i := by simp; omega
      have e1 : ((List.range len).map fun i => (Z i).take (L i))[i]'hi = (Z i).take (L i) := by simp
      rw [e1]
      refine ⟨A i, C i, by rw [List.length_map, hlen], by rw [List.length_map, hlen]; exact r1, r2, fun j hj => ?_⟩
      have hj' : j < L i := by rw [List.length_map, hlen] at hj; exact hj
      cases hA : A i with
      | none => have := r5 hA; omega
      | some a' =>
        obtain ⟨_, hc⟩ := r6 a' hA
        obtain ⟨b, o, h1, h2⟩ := cells_at hc j (by omega)
        refine ⟨b, o, h1, ?_⟩
        rw [h2]
        simp [List.getD_eq_getElem?_getD, List.getElem?_eq_getElem (show j < (Z i).length by omega)]
    · obtain ⟨i, hi, rfl⟩ := List.mem_map.1 hxs
      have hi' := List.mem_range.1 hi
      obtain ⟨_, r1, r2, r3, r4, _⟩ := hrow i (by omega)
      exact fun x hx => i64_bounds (r4 x (List.mem_of_mem_take hx))

theorem strings_of_cell {n : Nat} {t e : TypeId} {v : Value} {y : DataW H × List MemPlace} (ht : P.underlying t = some (.slice e)) (he : P.underlying e = some .string) (hc : P.cellsOf e = 1)
    (hf : DataW.trod enc P w base (fun _ => true) held n t [v] = some y) : ∃ xs : List ByteArray, ReadsS w v xs ∧ ∀ s ∈ xs, s.size ≤ maxLen := by
  rcases open_strings ht he hc hf with ⟨hcs, _⟩ | ⟨a, len, cap, zs, hcs, _, hl, hm, hz, _, hcell, hw⟩
  · have hcs : v = .slice none 0 0 := by simpa using hcs
    rw [hcs]
    exact ⟨[], ⟨none, 0, rfl, Nat.le_refl _, Nat.zero_le _, fun i hi => by simp at hi⟩, fun x hx => by simp at hx⟩
  · have hcs : v = .slice (some a) len cap := by simpa using hcs
    rw [hcs]
    simp only [if_true] at hz
    have hlen : (zs.take len).length = len := by simp; omega
    refine ⟨zs.take len, ⟨some a, cap, by rw [List.length_map, hlen], by rw [List.length_map, hlen]; exact hl, hm, fun i hi => ?_⟩, fun x hx => hw x (List.mem_of_mem_take hx)⟩
    have hi' : i < len := by rw [List.length_map, hlen] at hi; exact hi
    obtain ⟨b, o, h1, h2⟩ := cells_at hcell i (by omega)
    refine ⟨b, o, h1, ?_⟩
    rw [h2]
    simp [List.getD_eq_getElem?_getD, List.getElem?_eq_getElem (show i < zs.length by omega)]

/-- a shift that came in -/
theorem shift_of_trod {r : Reach} {b0 : Nat} {t e : TypeId} {f0 f1 : Field} {v : Value} {d : DataW H} {p : List MemPlace} (hs : P.underlying t = some (.struct #[f0, f1])) (hi0 : P.underlying f0.type = some (.int .i64)) (ht : P.underlying f1.type = some (.slice e)) (he : P.underlying e = some .string)
    (hone : oneCellFields P #[f0, f1] = true) (hC : P.cellsOf t = 2) (hc : P.cellsOf e = 1)
    (hv : Value.okWide P w r b0 t v) (h : DataW.Trod enc P w base (fun _ => true) held t v d p) :
    ∃ (L : Int) (u : Value) (xs : List ByteArray), v = .agg #[.int .i64 L, u] ∧ (-9223372036854775808 ≤ L ∧ L ≤ 9223372036854775807) ∧ ReadsS w u xs ∧ ∀ s ∈ xs, s.size ≤ maxLen := by
  obtain ⟨c0, u, y0, y1, m, rfl, _, _, h0, h1⟩ := open_agg2 hs hone hC hv h
  obtain ⟨a, e0, _, wa⟩ := DataW.trod_int hi0 h0
  simp at e0
  subst e0
  obtain ⟨xs, hx, hm⟩ := strings_of_cell ht he hc h1
  exact ⟨a, u, xs, rfl, i64_bounds wa, hx, hm⟩

/-- arcs: three numbers each -/
def ReadsArcs (w : World) (v : Value) (as : List (Int × Int × Int)) : Prop :=
  ∃ (a : Option Addr) (cap : Nat), v = .slice a as.length cap ∧ as.length ≤ cap ∧ cap ≤ maxLen ∧ ∀ i (h : i < as.length), ∃ b o, a = some ⟨b, o, none⟩ ∧ w.cell? ⟨b, o + i * 3, none⟩ = some (.int .i64 as[i].1) ∧ w.cell? ⟨b, o + i * 3 + 1, none⟩ = some (.int .i64 as[i].2.1) ∧ w.cell? ⟨b, o + i * 3 + 2, none⟩ = some (.int .i64 as[i].2.2)
theorem ReadsArcs.ext {w w' : World} {v : Value} {as : List (Int × Int × Int)} (h : ReadsArcs w v as) (hx : Ext w w') : ReadsArcs w' v as := by
  obtain ⟨a, cap, hv, h1, h2, h3⟩ := h
  refine ⟨a, cap, hv, h1, h2, fun i hi => ?_⟩
  obtain ⟨b, o, ha, k0, k1, k2⟩ := h3 i hi
  exact ⟨b, o, ha, hx.cell_some k0, hx.cell_some k1, hx.cell_some k2⟩
def ArcsFit (as : List (Int × Int × Int)) : Prop := ∀ x ∈ as, InI64 [x.1, x.2.1, x.2.2]

theorem arcs_of_cell {n : Nat} {t e : TypeId} {g0 g1 g2 : Field} {v : Value} {y : DataW H × List MemPlace} (ht : P.underlying t = some (.slice e)) (he : P.underlying e = some (.struct #[g0, g1, g2])) (hi0 : P.underlying g0.type = some (.int .i64)) (hi1 : P.underlying g1.type = some (.int .i64)) (hi2 : P.underlying g2.type = some (.int .i64))
    (ce : P.cellsOf e = 3) (o0 : g0.offset = 0) (o1 : g1.offset = 1) (o2 : g2.offset = 2) (c0 : P.cellsOf g0.type = 1) (c1 : P.cellsOf g1.type = 1) (c2 : P.cellsOf g2.type = 1)
    (hf : DataW.trod enc P w base (fun _ => true) held n t [v] = some y) : ∃ as : List (Int × Int × Int), ReadsArcs w v as ∧ ArcsFit as := by
  rcases open_slice ht hf with ⟨hcs, _⟩ | ⟨a, len, cap, m, k, D, Pl, hcs, _, hl, hm, hmm, _, hrow⟩
  · have hcs : v = .slice none 0 0 := by simpa using hcs
    rw [hcs]
    exact ⟨[], ⟨none, 0, rfl, Nat.le_refl _, Nat.zero_le _, fun i hi => by simp at hi⟩, fun x hx => by simp at hx⟩
  · have hcs : v = .slice (some a) len cap := by simpa using hcs
    rw [hcs]
    simp only [if_true] at hmm
    subst hmm
    have each : ∀ i, i < m → ∃ x : Int × Int × Int, InI64 [x.1, x.2.1, x.2.2] ∧ w.cell? (a.add (i * 3)) = some (.int .i64 x.1) ∧ w.cell? ((a.add (i * 3)).add 1) = some (.int .i64 x.2.1) ∧ w.cell? ((a.add (i * 3)).add 2) = some (.int .i64 x.2.2) := by
      intro i hi
      obtain ⟨cs', h1, h2⟩ := hrow i hi
      rw [ce] at h1
      obtain ⟨y0, y1, y2, k', _, hlen, h3, h4, h5⟩ := trod_struct3 he h2
      rw [ce] at hlen
      match cs', hlen with
      | [x0, x1, x2], _ =>
        rw [o0, c0] at h3
        rw [o1, c1] at h4
        rw [o2, c2] at h5
        obtain ⟨n0, e0, _, w0⟩ := DataW.trod_int hi0 h3
        obtain ⟨n1, e1, _, w1⟩ := DataW.trod_int hi1 h4
        obtain ⟨n2, e2, _, w2⟩ := DataW.trod_int hi2 h5
        simp at e0 e1 e2
        subst e0 e1 e2
        have hc := (World.cells?_some h1).2.2
        refine ⟨(n0, n1, n2), fun x hx => ?_, by simpa [Addr.add] using hc 0 (by omega), by simpa using hc 1 (by omega), by simpa using hc 2 (by omega)⟩
        simp at hx
        rcases hx with rfl | rfl | rfl
        · exact i64_bounds w0
        · exact i64_bounds w1
        · exact i64_bounds w2
    obtain ⟨X, hX⟩ := choose_lt each
    refine ⟨(List.range len).map X, ⟨some a, m, by simp, by simpa using hl, hm, fun i hi => ?_⟩, fun x hx => ?_⟩
    · have hi' : i < len := by simpa using hi
      obtain ⟨_, h1, h2, h3⟩ := hX i (by omega)
      obtain ⟨_, z1, _⟩ := hX 0 (by omega)
      obtain ⟨b, o, spot⟩ := a
      have hs : spot = none := by simpa [Addr.add] using World.cell?_spot z1
      subst hs
      refine ⟨b, o, rfl, ?_⟩
      simp only [Go.WideShapes.add_plain] at h1 h2 h3
      simpa using ⟨h1, h2, h3⟩
    · obtain ⟨i, hi, rfl⟩ := List.mem_map.1 hx
      exact (hX i (by have := List.mem_range.1 hi; omega)).1

/-- a labelled graph that came in -/
theorem labels_of_trod {r : Reach} {b0 : Nat} {t e : TypeId} {f0 f1 f2 g0 g1 g2 : Field} {v : Value} {d : DataW H} {p : List MemPlace} (hs : P.underlying t = some (.struct #[f0, f1, f2])) (hj0 : P.underlying f0.type = some (.int .i64)) (hj1 : P.underlying f1.type = some (.int .i64))
    (ht : P.underlying f2.type = some (.slice e)) (he : P.underlying e = some (.struct #[g0, g1, g2])) (hi0 : P.underlying g0.type = some (.int .i64)) (hi1 : P.underlying g1.type = some (.int .i64)) (hi2 : P.underlying g2.type = some (.int .i64))
    (hone : oneCellFields P #[f0, f1, f2] = true) (hC : P.cellsOf t = 3)
    (ce : P.cellsOf e = 3) (o0 : g0.offset = 0) (o1 : g1.offset = 1) (o2 : g2.offset = 2) (c0 : P.cellsOf g0.type = 1) (c1 : P.cellsOf g1.type = 1) (c2 : P.cellsOf g2.type = 1)
    (hv : Value.okWide P w r b0 t v) (h : DataW.Trod enc P w base (fun _ => true) held t v d p) :
    ∃ (L S : Int) (u : Value) (as : List (Int × Int × Int)), v = .agg #[.int .i64 L, .int .i64 S, u] ∧ (-9223372036854775808 ≤ L ∧ L ≤ 9223372036854775807) ∧ (-9223372036854775808 ≤ S ∧ S ≤ 9223372036854775807) ∧ ReadsArcs w u as ∧ ArcsFit as := by
  obtain ⟨k0, k1, u, y0, y1, y2, m, rfl, _, _, h0, h1, h2⟩ := open_agg3 hs hone hC hv h
  obtain ⟨a, e0, _, wa⟩ := DataW.trod_int hj0 h0
  obtain ⟨b, e1, _, wb⟩ := DataW.trod_int hj1 h1
  simp at e0 e1
  subst e0 e1
  obtain ⟨as, ha, hm⟩ := arcs_of_cell ht he hi0 hi1 hi2 ce o0 o1 o2 c0 c1 c2 h2
  exact ⟨a, b, u, as, rfl, i64_bounds wa, i64_bounds wb, ha, hm⟩

/-- bytes that came in -/
def ReadsB (w : World) (v : Value) (xs : List UInt8) : Prop := Reads w v (xs.map fun c => .int .u8 (c.toNat : Int))
theorem ReadsB.ext {w w' : World} {v : Value} {xs : List UInt8} (h : ReadsB w v xs) (hx : Ext w w') : ReadsB w' v xs := Reads.ext h hx
theorem bytes_of_trod {r : Reach} {b0 : Nat} {t e : TypeId} {v : Value} {d : DataW H} {p : List MemPlace} (ht : P.underlying t = some (.slice e)) (he : P.underlying e = some (.int .u8)) (hc : P.cellsOf e = 1)
    (hv : Value.okWide P w r b0 t v) (h : DataW.Trod enc P w base (fun _ => true) held t v d p) : ∃ xs : List UInt8, ReadsB w v xs := by
  obtain ⟨fuel, hf⟩ := h
  obtain ⟨a0, l0, c0, rfl⟩ := okWide_slice ht hv
  rcases open_ints ht he hc hf with ⟨hcs, _⟩ | ⟨a, len, cap, zs, hcs, _, hl, hm, hz, _, hcell, hw⟩
  · have hcs : Value.slice a0 l0 c0 = .slice none 0 0 := by simpa [Value.cells] using hcs
    rw [hcs]
    exact ⟨[], ⟨none, 0, rfl, Nat.le_refl _, Nat.zero_le _, fun i hi => by simp at hi⟩⟩
  · have hcs : Value.slice a0 l0 c0 = .slice (some a) len cap := by simpa [Value.cells] using hcs
    rw [hcs]
    simp only [if_true] at hz
    have hlen : ((zs.take len).map fun n => UInt8.ofNat n.toNat).length = len := by simp; omega
    refine ⟨(zs.take len).map fun n => UInt8.ofNat n.toNat, ⟨some a, cap, by rw [List.length_map, hlen], by rw [List.length_map, hlen]; exact hl, hm, fun i hi => ?_⟩⟩
    have hi' : i < len := by rw [List.length_map, hlen] at hi; exact hi
    obtain ⟨b, o, h1, h2⟩ := cells_at hcell i (by omega)
    refine ⟨b, o, h1, ?_⟩
    rw [h2]
    have hi2 : i < zs.length := by omega
    have hwf := hw zs[i] (List.getElem_mem hi2)
    simp only [Lit.wf, IntKind.min, IntKind.max, IntKind.signed, IntKind.bits, Bool.and_eq_true, decide_eq_true_eq, Bool.false_eq_true, if_false] at hwf
    have h3 : ((UInt8.ofNat zs[i].toNat).toNat : Int) = zs[i] := by
      have : (UInt8.ofNat zs[i].toNat).toNat = zs[i].toNat % 256 := rfl
      omega
    simp only [List.getD_eq_getElem?_getD, List.getElem?_eq_getElem hi2, Option.getD_some, List.getElem_map, List.getElem_take, h3]
end
end Go

/- Rows that a call itself makes: what they read as, a store, a make. No dump is imported. -/
namespace Go
open Go.RowKit

/-- A row of one-cell elements, made by the call. -/
def Own (w : World) (B : Nat) (E : TypeId) (v : Value) (fs : List Value) : Prop := w.ownsRow B E 1 v fs.length fs

theorem Own.nil (w : World) (B : Nat) (E : TypeId) : Own w B E (.slice none 0 0) [] := World.ownsRow_nil w B E 1

theorem Own.shape {w : World} {B : Nat} {E : TypeId} {v : Value} {fs : List Value} (h : Own w B E v fs) :
    (v = .slice none 0 0 ∧ fs = []) ∨ ∃ g cap, v = .slice (some ⟨g, 0, none⟩) fs.length cap ∧ B ≤ g ∧ g < w.heap.size ∧ fs.length ≤ cap ∧ cap ≤ maxLen := by
  rcases h.2 with ⟨hv, hn⟩ | ⟨g, cap, cur, hv, hb, hg, h1, h2, _⟩
  · exact .inl ⟨hv, List.eq_nil_of_length_eq_zero hn⟩
  · exact .inr ⟨g, cap, hv, hb, (Array.getElem?_eq_some_iff.1 hg).1, h1, h2⟩

theorem Own.cell {w : World} {B : Nat} {E : TypeId} {g n cap : Nat} {fs : List Value} (h : Own w B E (.slice (some ⟨g, 0, none⟩) n cap) fs) (j : Nat) (hj : j < fs.length) : w.cell? ⟨g, j, none⟩ = some fs[j] := by
  rcases h.shape with ⟨hv, _⟩ | ⟨g', cap', hv, _⟩
  · cases hv
  · injection hv with h1 h2 h3
    subst h2
    have := World.ownsRow.cellAt h j (by simpa using hj)
    rw [this, List.getElem?_eq_getElem hj]

theorem Own.len {w : World} {B : Nat} {E : TypeId} {a : Option Addr} {n cap : Nat} {fs : List Value} (h : Own w B E (.slice a n cap) fs) : n = fs.length := by
  rcases h.shape with ⟨hv, hf⟩ | ⟨g', cap', hv, _⟩
  · injection hv with h1 h2 h3; subst hf; exact h2
  · injection hv

theorem Own.frozen {w : World} {B : Nat} {E : TypeId} {g n cap : Nat} {fs : List Value} (h : Own w B E (.slice (some ⟨g, 0, none⟩) n cap) fs) (j : Nat) : w.frozen? ⟨g, j, none⟩ = false := by
  have hn := h.len
  subst hn
  exact World.ownsRow.frozenAt h j

theorem Own.reads {w : World} {B : Nat} {E : TypeId} {v : Value} {fs : List Value} (h : Own w B E v fs) : Reads w v fs := by
  rcases h.shape with ⟨hv, hf⟩ | ⟨g, cap, hv, _, _, h1, h2⟩
  · subst hv; subst hf
    exact ⟨none, 0, rfl, by simp, by simp [maxLen], fun i hi => by simp at hi⟩
  · subst hv
    exact ⟨_, cap, rfl, h1, h2, fun i hi => ⟨g, 0, rfl, by rw [Nat.zero_add]; exact h.cell i hi⟩⟩

theorem Own.ext {w w' : World} {B : Nat} {E : TypeId} {v : Value} {fs : List Value} (h : Own w B E v fs) (hx : Ext w w') : Own w' B E v fs := by
  refine ⟨h.1, ?_⟩
  rcases h.2 with hn | ⟨g, cap, cur, hv, hb, hg, rest⟩
  · exact .inl hn
  · exact .inr ⟨g, cap, cur, hv, hb, by rw [Below.block hx g (Array.getElem?_eq_some_iff.1 hg).1]; exact hg, rest⟩

/-- A store into the row. -/
theorem Own.store {w : World} {B : Nat} {E : TypeId} {g n cap : Nat} {fs : List Value} (h : Own w B E (.slice (some ⟨g, 0, none⟩) n cap) fs) (j : Nat) (u : Value) : Own (w.setCell ⟨g, j, none⟩ u) B E (.slice (some ⟨g, 0, none⟩) n cap) (fs.set j u) := by
  have hn := h.len
  subst hn
  have := (World.ownsRow.stored h j u).1
  unfold Own
  rw [List.length_set]
  exact this

/-- .. and nothing that was there before has turned. -/
theorem Ext.setCell {a w : World} (h : Ext a w) {p : Addr} (hp : a.heap.size ≤ p.block) (u : Value) : Ext a (w.setCell p u) := Below.setCell h hp u

theorem Ext.size {a w : World} (h : Ext a w) : a.heap.size ≤ w.heap.size := Below.size h

theorem Ext.grown {a w w' : World} {row : Option Nat} (h : Ext a w) (hg : w.grownBy w' row) (hr : ∀ k, row = some k → a.heap.size ≤ k) : Ext a w' := Below.grown h hg (Ext.size h) hr

/-- Lowering the base. -/
theorem Own.mono {w : World} {B B' : Nat} {E : TypeId} {v : Value} {fs : List Value} (h : Own w B E v fs) (hB : B' ≤ B) : Own w B' E v fs := by
  refine ⟨h.1, ?_⟩
  rcases h.2 with hn | ⟨g, cap, cur, hv, hb, rest⟩
  · exact .inl hn
  · exact .inr ⟨g, cap, cur, hv, by omega, rest⟩

/-- A row that make has just laid. -/
theorem Own.made (w : World) (E : TypeId) (z : Value) (n : Nat) (hn : n ≤ maxLen) : Own (w.alloc (.cells (madeCells #[z] n) E)) w.heap.size E (.slice (some ⟨w.heap.size, 0, none⟩) n n) (List.replicate n z) := by
  have := World.ownsRow_lit (base := w.heap.size) (e := E) (size := 1) w (madeCells #[z] n) n (Nat.le_refl _) hn (by simp [madeCells])
  rw [toList_madeCells_one] at this
  unfold Own
  rw [List.length_replicate]
  exact this

/-- A row written out. -/
theorem Own.lit (w : World) (E : TypeId) (cs : List Value) (hn : cs.length ≤ maxLen) : Own (w.alloc (.cells cs.toArray E)) w.heap.size E (.slice (some ⟨w.heap.size, 0, none⟩) cs.length cs.length) cs := by
  have := World.ownsRow_lit (base := w.heap.size) (e := E) (size := 1) w cs.toArray cs.length (Nat.le_refl _) hn (by simp)
  exact this

/-- bytes as cells -/
def bcells (l : List UInt8) : List Value := l.map fun b => .int .u8 (b.toNat : Int)

/-- 'string(b)' of a row of bytes -/
theorem run_convert_own {P : Program} {w : World} {B : Nat} {E src dst : TypeId} {v : Value} {l : List UInt8} (hs : P.underlying src = some (.slice E)) (he : P.underlying E = some (.int .u8)) (hd : P.underlying dst = some .string)
    (h : Own w B E v (bcells l)) : (convert src dst v).run P w = .ok (.string ⟨l.toArray⟩) w := by
  rcases h.shape with ⟨hv, hf⟩ | ⟨g, cap, hv, _⟩
  · subst hv
    have : l = [] := by simpa [bcells] using hf
    subst this
    exact run_convert_bytes_nil w src E hs he 0 0 dst hd
  · subst hv
    have hl : (bcells l).length = l.length := by simp [bcells]
    rw [hl]
    refine run_convert_bytes_back w src dst E ⟨g, 0, none⟩ cap l hs he hd fun j hj => ?_
    have := h.cell j (by rw [hl]; exact hj)
    rw [show (⟨g, 0, none⟩ : Addr).add j = ⟨g, j, none⟩ by unfold Addr.add; split <;> simp_all]
    simpa [bcells] using this

/-- Where a row lies behind an append: where it lay, or in a new block. -/
def Moved (w : World) (v v' : Value) : Prop := v'.ownBlock = v.ownBlock ∨ ∀ k, v'.ownBlock = some k → w.heap.size ≤ k

theorem run_append_one {P : Program} {w : World} (t ty E : TypeId) (z : Value) (bytes : Nat) (ht : P.underlying t = some (.slice E)) (hinfo : (P.info? E).map (fun i => (i.zero, i.size, i.bytes)) = some (some z, 1, bytes)) (hz1 : z.cells = #[z])
    (B : Nat) (v : Value) (fs : List Value) (hown : Own w B E v fs) (ad : Addr) (c : Nat) (u : Value) (hu : w.cell? ad = some u) (h1 : u.oneCell' = true)
    (hlen : fs.length + 1 ≤ maxLen) (hbytes : (fs.length + 1) * bytes ≤ 140737488355328) (hbase : B ≤ w.heap.size) :
    ∃ v' w', (Builtin.append_ #[t, t] ty #[v, .slice (some ad) 1 c]).run P w = .ok v' w' ∧ Own w' B E v' (fs ++ [u]) ∧ w.grownBy w' v.ownBlock ∧ Moved w v v' := by
  obtain ⟨i, hi, hzz⟩ := Option.map_eq_some_iff.1 hinfo
  simp only [Prod.mk.injEq] at hzz
  obtain ⟨hz, hsz, hb⟩ := hzz
  have hnews : ∀ (j : Nat) (u' : Value), [u][j]? = some u' → w.cell? (ad.add j) = some u' := by
    intro j u' hj
    match j, hj with
    | 0, hj => simp at hj; subst hj; simpa [Addr.add] using hu
  have hlen63 : fs.length + 1 ≤ 9223372036854775807 := by simp only [maxLen] at hlen; omega
  -- a new block
  have fresh : ∀ old, (w.drew.alloc (.cells (fs.toArray ++ [u].toArray ++ Builtin.zeroCells z.cells (grownCap w (fs.length + 1) old E - (fs.length + 1))) E)).ownsRow B E 1 (.slice (some ⟨w.heap.size, 0, none⟩) (fs.length + 1) (grownCap w (fs.length + 1) old E)) (fs.length + 1) (fs ++ [u]) := by
    intro old
    have hge := grownCap_ge w (fs.length + 1) old E
    refine ⟨by simp, .inr ⟨w.heap.size, _, _, rfl, hbase, heap_alloc_new w.drew _, hge, grownCap_le_maxLen w (fs.length + 1) old E hlen, ?_, ?_⟩⟩
    · simp only [Array.size_append, List.size_toArray, size_zeroCells, hz1, List.length_cons, List.length_nil]
      show fs.length + 1 + (grownCap w (fs.length + 1) old E - (fs.length + 1)) * 1 = _
      omega
    · simp only [Array.toList_append, Nat.mul_one]
      rw [show fs.length + 1 = (fs ++ [u]).length by simp]
      exact List.take_left
  have fgrown : ∀ (old : Nat) (row : Option Nat), w.grownBy (w.drew.alloc (.cells (fs.toArray ++ [u].toArray ++ Builtin.zeroCells z.cells (grownCap w (fs.length + 1) old E - (fs.length + 1))) E)) row :=
    fun old row => ⟨rfl, rfl, rfl, by simp, fun k hk _ => Below.heap_alloc w.drew _ k hk⟩
  rcases hown.2 with ⟨hv, hn⟩ | ⟨g, cap, cur, hv, hbg, hg, hnc, hcm, hcs, htake⟩
  · have hf : fs = [] := List.eq_nil_of_length_eq_zero hn
    subst hf; subst hv
    have hr := run_append_nil (P := P) w t ty E i z ht hi hz ad 1 c [u] (by simp [hsz]) hnews (by omega) (by omega) (by rw [hb]; simp only [List.length_nil, Nat.zero_add] at hbytes; omega)
    have h2 := fresh 0
    have h3 := fgrown 0 (Value.ownBlock (.slice none 0 0))
    simp only [List.length_nil, Nat.zero_add, List.nil_append, Array.empty_append] at h2 h3
    exact ⟨_, _, hr, h2, h3, .inr fun k hk => by simp [Value.ownBlock] at hk; omega⟩
  · subst hv
    by_cases hroom : fs.length + 1 ≤ cap
    · have hr := run_append_room (P := P) w t ty E i ht hi g fs.length cap cur hg ad 1 c [u] (by simp [hsz]) hnews (by intro u' hu'; simp at hu'; subst hu'; exact h1) hroom (by rw [hsz, hcs]; simp; omega)
      rw [hsz] at hr
      refine ⟨_, _, hr, ?_, ⟨rfl, rfl, rfl, by simp, fun k _ hk => setRow_other w g k _ (fun e => hk (by simp [Value.ownBlock, e]))⟩, .inl rfl⟩
      unfold Own
      rw [List.length_append]
      refine ⟨by simp, .inr ⟨g, cap, _, rfl, hbg, setRow_heap w g cur _ E _ hg, hroom, hcm, ?_, ?_⟩⟩
      · simp only [List.size_toArray, List.length_append, List.length_take, List.length_drop, Array.length_toList, List.length_singleton]
        omega
      · rw [htake]
        show List.take ((fs.length + 1) * 1) (fs ++ [u] ++ _) = _
        rw [show (fs.length + 1) * 1 = (fs ++ [u]).length by simp]
        exact List.take_left
    · have holds : ∀ (j : Nat) (u' : Value), fs[j]? = some u' → w.cell? ((⟨g, 0, none⟩ : Addr).add j) = some u' := hown.cells (g := g) rfl
      have hr := run_append_grow (P := P) w t ty E i z ht hi hz ⟨g, 0, none⟩ fs.length cap fs (by simp [hsz]) holds ad 1 c [u] (by simp [hsz]) hnews (by omega) (by omega) (by rw [hb]; exact growslice_fits (by omega) hbytes)
      refine ⟨_, _, hr, ?_, fgrown cap _, .inr fun k hk => by simp [Value.ownBlock] at hk; omega⟩
      unfold Own
      rw [List.length_append]
      exact fresh cap

/-- 'out = append(out, x)' of one element on a row of the call's own: x stands in a new cell. -/
theorem wpList_append_one {P : Program} {w : World} {ops : Array Oper} {rest : List Oper} {o : Oper} {a : Act} {Q : Exit → Act → World → Prop} (hgd : o.guard = none) (s x : Operand) (t : TypeId)
    (ho : o.op = .call { callee := .builtin .append, args := #[s, x], argTypes := #[t, t] })
    (E : TypeId) (z : Value) (bytes : Nat) (ht : P.underlying t = some (.slice E)) (hinfo : (P.info? E).map (fun i => (i.zero, i.size, i.bytes)) = some (some z, 1, bytes)) (hz1 : z.cells = #[z])
    (B : Nat) (v : Value) (fs : List Value) (hs : a.eval s = v) (hown : Own w B E v fs)
    (g : Nat) (u : Value) (hx : a.eval x = .slice (some ⟨g, 0, none⟩) 1 1) (hu : w.cell? ⟨g, 0, none⟩ = some u) (h1 : u.oneCell' = true)
    (hlen : fs.length + 1 ≤ maxLen) (hbytes : (fs.length + 1) * bytes ≤ 140737488355328)
    (W0 : World) (hB : W0.heap.size = B) (hext : Ext W0 w)
    (h : ∀ v' w', Own w' B E v' (fs ++ [u]) → Ext W0 w' → w.grownBy w' v.ownBlock ∧ Moved w v v' → wpList P ops Q rest (a.put o.dst v') w') : wpList P ops Q (o :: rest) a w := by
  obtain ⟨v', w', hr, h2, h3, h4⟩ := run_append_one (P := P) t o.type E z bytes ht hinfo hz1 B v fs hown ⟨g, 0, none⟩ 1 u hu h1 hlen hbytes (by rw [← hB]; exact hext.size)
  refine wpList_plain hgd fun K hK' => ?_
  unfold Oper.wp execOp
  simp only [ho, resolve, invoke, builtin, Sem.run_bind, Sem.run_pure, Result.andThen_ok, List.map_toArray, List.map_cons, List.map_nil, hs, hx, hr]
  refine hK' _ _ (h v' w' h2 (hext.grown h3 fun k hk => ?_) ⟨h3, h4⟩)
  have := (World.ownsRow.lt hown k hk).1
  omega

/-- Since the world W, in which the row was v0, memory has grown, and of what was there the row v0 alone was written. -/
structure Grew (W : World) (v0 : Value) (wr : World) (v : Value) : Prop where
  grown : W.grownBy wr v0.ownBlock
  blk : v.ownBlock = v0.ownBlock ∨ ∀ k, v.ownBlock = some k → W.heap.size ≤ k

theorem Grew.refl (W : World) (v : Value) : Grew W v W v := ⟨⟨rfl, rfl, rfl, Nat.le_refl _, fun _ _ _ => rfl⟩, .inl rfl⟩
theorem Grew.ext {W : World} {v0 : Value} {wr w' : World} {v : Value} (h : Grew W v0 wr v) (hx : Ext wr w') : Grew W v0 w' v :=
  ⟨⟨(Below.os hx).trans h.grown.os, (Below.tape hx).trans h.grown.tape, (Below.output hx).trans h.grown.output, Nat.le_trans h.grown.size hx.size, fun k hk hne => by
    rw [Below.block hx k (Nat.lt_of_lt_of_le hk h.grown.size)]
    exact h.grown.block k hk hne⟩, h.blk⟩
theorem Grew.step {W : World} {v0 : Value} {wr w' : World} {v v' : Value} (h : Grew W v0 wr v) (hg : wr.grownBy w' v.ownBlock ∧ Moved wr v v') : Grew W v0 w' v' := by
  obtain ⟨hg, hm⟩ := hg
  refine ⟨⟨hg.os.trans h.grown.os, hg.tape.trans h.grown.tape, hg.output.trans h.grown.output, Nat.le_trans h.grown.size hg.size, fun k hk hne => ?_⟩, ?_⟩
  · rw [hg.block k (Nat.lt_of_lt_of_le hk h.grown.size) ?_]
    · exact h.grown.block k hk hne
    · rcases h.blk with hb | hb
      · rw [hb]; exact hne
      · intro e
        have := hb k e.symm
        omega
  · rcases hm with hm | hm
    · rw [hm]; exact h.blk
    · exact .inr fun k hk => Nat.le_trans h.grown.size (hm k hk)
theorem Grew.cell {W : World} {v0 : Value} {wr : World} {v : Value} (h : Grew W v0 wr v) {a : Addr} {u : Value} (hc : W.cell? a = some u) (hne : v0.ownBlock ≠ some a.block) : wr.cell? a = some u :=
  (World.cell?_of_block (h.grown.block a.block (World.block_lt_of_cell? W a hc) (Ne.symm hne))).trans hc
theorem Grew.frozen {W : World} {v0 : Value} {wr : World} {v : Value} (h : Grew W v0 wr v) {a : Addr} (hb : a.block < W.heap.size) (hne : v0.ownBlock ≠ some a.block) : wr.frozen? a = W.frozen? a :=
  World.frozen?_of_block (h.grown.block a.block hb (Ne.symm hne))
theorem Grew.own {W : World} {v0 : Value} {wr : World} {v : Value} (h : Grew W v0 wr v) {B : Nat} {E : TypeId} {u : Value} {fs : List Value} (ho : Own W B E u fs) (hne : ∀ k, u.ownBlock = some k → v0.ownBlock ≠ some k) : Own wr B E u fs := by
  refine World.ownsRow.kept ho h.grown ?_
  cases hu : u.ownBlock with
  | none => exact .inl rfl
  | some k => exact .inr fun e => hne k hu e.symm
theorem Grew.reads {W : World} {v0 : Value} {wr : World} {v : Value} (h : Grew W v0 wr v) {u : Value} {fs : List Value} (ho : Reads W u fs) (hne : ∀ k, u.ownBlock = some k → v0.ownBlock ≠ some k) : Reads wr u fs := by
  obtain ⟨a, cap, hv, h1, h2, h3⟩ := ho
  refine ⟨a, cap, hv, h1, h2, fun i hi => ?_⟩
  obtain ⟨b, o, ha, hc⟩ := h3 i hi
  exact ⟨b, o, ha, h.cell hc (hne b (by rw [hv, ha]; rfl))⟩

/-! ### One block alone is written -/
theorem GB.refl (W : World) (row : Option Nat) : W.grownBy W row := ⟨rfl, rfl, rfl, Nat.le_refl _, fun _ _ _ => rfl⟩
theorem GB.ext {W wr w' : World} {row : Option Nat} (h : W.grownBy wr row) (hx : Ext wr w') : W.grownBy w' row :=
  ⟨(Below.os hx).trans h.os, (Below.tape hx).trans h.tape, (Below.output hx).trans h.output, Nat.le_trans h.size hx.size, fun k hk hne => by
    rw [Below.block hx k (Nat.lt_of_lt_of_le hk h.size)]
    exact h.block k hk hne⟩
theorem GB.setCell {W wr : World} {b : Nat} (h : W.grownBy wr (some b)) (o : Nat) (u : Value) : W.grownBy (wr.setCell ⟨b, o, none⟩ u) (some b) :=
  ⟨h.os, h.tape, h.output, by simpa [World.setCell] using h.size, fun k hk hne => by
    rw [Below.heap_setCell _ _ _ _ (fun e => hne (by rw [e]))]
    exact h.block k hk hne⟩
theorem GB.cell {W wr : World} {row : Option Nat} (h : W.grownBy wr row) {a : Addr} {u : Value} (hc : W.cell? a = some u) (hne : row ≠ some a.block) : wr.cell? a = some u :=
  (World.cell?_of_block (h.block a.block (World.block_lt_of_cell? W a hc) (Ne.symm hne))).trans hc
theorem GB.frozen {W wr : World} {row : Option Nat} (h : W.grownBy wr row) {a : Addr} (hb : a.block < W.heap.size) (hne : row ≠ some a.block) : wr.frozen? a = W.frozen? a :=
  World.frozen?_of_block (h.block a.block hb (Ne.symm hne))
theorem GB.own {W wr : World} {row : Option Nat} (h : W.grownBy wr row) {B : Nat} {E : TypeId} {u : Value} {fs : List Value} (ho : Own W B E u fs) (hne : ∀ k, u.ownBlock = some k → row ≠ some k) : Own wr B E u fs := by
  refine World.ownsRow.kept ho h ?_
  cases hu : u.ownBlock with
  | none => exact .inl rfl
  | some k => exact .inr fun e => hne k hu e.symm
end Go

/- Plain words and codes: letters, powers. No program in sight. -/
namespace Go.Cm
open Go.RowKit

/-- a power -/
def pw (k n : Int) : Int := k ^ n.toNat
theorem pw_zero (k : Int) : pw k 0 = 1 := by simp [pw]
theorem pw_succ (k : Int) (n : Nat) : pw k ((n : Int) + 1) = pw k n * k := by
  unfold pw
  have h : ((n : Int) + 1).toNat = n + 1 := by omega
  have h' : ((n : Int)).toNat = n := by omega
  rw [h, h', Int.pow_succ]
theorem pw_nonneg {k : Int} (h : 0 ≤ k) (n : Nat) : 0 ≤ pw k n := by
  induction n with
  | zero => simp [pw]
  | succ n ih =>
    have : ((n + 1 : Nat) : Int) = (n : Int) + 1 := by omega
    rw [this, pw_succ]
    exact Int.mul_nonneg ih h
theorem pw_le {k : Int} (h0 : 0 ≤ k) (h3 : k ≤ 3) (n : Nat) : pw k n ≤ 3 ^ n := by
  induction n with
  | zero => simp [pw]
  | succ n ih =>
    have e : ((n + 1 : Nat) : Int) = (n : Int) + 1 := by omega
    rw [e, pw_succ, Int.pow_succ]
    exact Int.mul_le_mul ih h3 h0 (Int.le_trans (pw_nonneg h0 n) ih)
theorem pow3_le {n : Nat} (h : n ≤ 16) : (3 : Int) ^ n ≤ 43046721 := by
  have : (3 : Nat) ^ n ≤ 3 ^ 16 := Nat.pow_le_pow_right (by omega) h
  have e : (3 : Int) ^ n = ((3 ^ n : Nat) : Int) := by simp
  rw [e]
  have e2 : (3 : Nat) ^ 16 = 43046721 := by decide
  omega
theorem pw_bd {k n : Int} (h0 : 0 ≤ k) (h3 : k ≤ 3) (hn : 0 ≤ n) (h16 : n ≤ 16) : 0 ≤ pw k n ∧ pw k n ≤ 43046721 := by
  obtain ⟨m, rfl⟩ := Int.eq_ofNat_of_zero_le hn
  exact ⟨pw_nonneg h0 m, Int.le_trans (pw_le h0 h3 m) (pow3_le (by omega))⟩

/-- one letter of the first k -/
def isLet (k : Int) (c : UInt8) : Bool := decide (97 ≤ (c.toNat : Int)) && decide ((c.toNat : Int) - 97 < k)
/-- letters alone -/
def areLet (k : Int) (l : List UInt8) : Bool := l.all (isLet k)

theorem take_snoc (s : ByteArray) (k : Nat) (h : k < s.size) : s.data.toList.take (k + 1) = s.data.toList.take k ++ [s[k]] := by
  rw [List.take_succ_eq_append_getElem (by simpa using h)]; rfl
theorem take_all (s : ByteArray) : s.data.toList.take s.size = s.data.toList := List.take_of_length_le (by simp)
theorem areLet_snoc {k : Int} {s : ByteArray} {n : Nat} (h : n < s.size) (hp : areLet k (s.data.toList.take n) = true) (h1 : 97 ≤ (s[n].toNat : Int)) (h2 : (s[n].toNat : Int) - 97 < k) : areLet k (s.data.toList.take (n + 1)) = true := by
  rw [take_snoc s n h]
  simp only [areLet, List.all_append] at hp ⊢
  simp [hp, isLet, h1, h2]
theorem areLet_bad {k : Int} {s : ByteArray} {n : Nat} (h : n < s.size) (h1 : ¬ (97 ≤ (s[n].toNat : Int) ∧ (s[n].toNat : Int) - 97 < k)) : areLet k s.data.toList = false := by
  unfold areLet
  rw [List.all_eq_false]
  refine ⟨s[n], ?_, ?_⟩
  · have : s.data.toList[n]'(by simpa using h) = s[n] := rfl
    rw [← this]; exact List.getElem_mem _
  · simp only [isLet, Bool.and_eq_true, decide_eq_true_eq]
    exact h1
theorem areLet_all {k : Int} {s : ByteArray} (hp : areLet k (s.data.toList.take s.size) = true) : areLet k s.data.toList = true := by rwa [take_all] at hp

/-- What a code is. -/
def codeOk (L W : Int) (s : ByteArray) : Bool := (decide (L = 2) || decide (L = 3)) && (decide (1 ≤ W) && (decide (W ≤ 4) && (decide (pw L W ≤ 27) && (decide ((s.size : Int) = pw L W) && areLet L s.data.toList))))
end Go.Cm

/- Words by their index. No program in sight. -/
namespace Go.Cm

/-- the letter at an index -/
def letN (y : Nat) : UInt8 := UInt8.ofNat (97 + y)

/-- The word of length n with k letters at an index. -/
def wordL (k : Nat) : Nat → Nat → List UInt8
  | 0, _ => []
  | n + 1, i => wordL k n (i / k) ++ [letN (i % k)]
theorem wordL_length (k : Nat) : ∀ n i, (wordL k n i).length = n
  | 0, _ => rfl
  | n + 1, i => by simp [wordL, wordL_length k n]

/-- All words of a length. -/
def wordsL (k n : Nat) : List (List UInt8) := (List.range (k ^ n)).map (wordL k n)
/-- as texts -/
def mkS (l : List UInt8) : ByteArray := ⟨l.toArray⟩
theorem mkS_size (l : List UInt8) : (mkS l).size = l.length := by simp [mkS, ByteArray.size]
theorem mkS_data (l : List UInt8) : (mkS l).data.toList = l := by simp [mkS]

theorem mkS_get (l : List UInt8) (a : Nat) (h : a < (mkS l).size) : (mkS l)[a] = l.getD a 0 := by
  have h' : a < l.length := by rw [← mkS_size]; exact h
  show (mkS l).data[a]'h = _
  simp [mkS, List.getD_eq_getElem?_getD, List.getElem?_eq_getElem h']
theorem mkS_data_self (s : ByteArray) : mkS s.data.toList = s := by
  obtain ⟨⟨l⟩⟩ := s
  rfl

theorem mkS_append (l r : List UInt8) : mkS l ++ mkS r = mkS (l ++ r) := by
  show ByteArray.append _ _ = _
  apply ByteArray.ext
  simp [mkS, ByteArray.append]
theorem abc_at (y : Nat) (h : y < 3) : (ByteArray.mk #[97, 98, 99]).extract y (y + 1) = mkS [letN y] := by
  match y, h with
  | 0, _ => rfl
  | 1, _ => rfl
  | 2, _ => rfl

theorem mkS_slice (u : List UInt8) (a : Nat) (h : a < u.length) : (mkS u).extract a (a + 1) = mkS [u.getD a 0] := by
  apply ByteArray.ext
  apply Array.ext'
  rw [Lib.extract_data, mkS_data, mkS_data]
  rw [List.getD_eq_getElem?_getD, List.getElem?_eq_getElem h]
  rw [List.drop_eq_getElem_cons h, show a + 1 - a = 1 by omega]
  rfl

theorem range_mul (m k : Nat) : List.range (m * k) = (List.range m).flatMap fun q => (List.range k).map fun x => q * k + x := by
  induction m with
  | zero => simp
  | succ m ih =>
    rw [List.range_succ, List.flatMap_append, ← ih, Nat.succ_mul, List.range_add]
    simp

theorem wordsL_succ (k n : Nat) (hk : 0 < k) : wordsL k (n + 1) = (wordsL k n).flatMap fun u => (List.range k).map fun x => u ++ [letN x] := by
  unfold wordsL
  rw [Nat.pow_succ, range_mul, List.map_flatMap, List.flatMap_map]
  congr 1
  funext q
  rw [List.map_map]
  apply List.map_congr_left
  intro x hx
  have hx' : x < k := by simpa using hx
  simp only [Function.comp, wordL]
  have h1 : (q * k + x) / k = q := by
    rw [Nat.add_comm, Nat.add_mul_div_right _ _ hk, Nat.div_eq_of_lt hx', Nat.zero_add]
  have h2 : (q * k + x) % k = x := by
    rw [Nat.add_comm, Nat.add_mul_mod_self_right, Nat.mod_eq_of_lt hx']
  rw [h1, h2]
theorem wordsL_zero (k : Nat) : wordsL k 0 = [[]] := by simp [wordsL, wordL]

theorem ofNat_toNat {n : Nat} (h : n < 256) : ((UInt8.ofNat n).toNat : Int) = n := by
  have : (UInt8.ofNat n).toNat = n % 256 := by simp
  rw [this, Nat.mod_eq_of_lt h]
end Go.Cm

/- Codes on words. No program in sight. -/
namespace Go.Cm

/-- what a word is -/
def wordOk (k : Int) (s : ByteArray) : Bool := (decide (1 ≤ k) && decide (k ≤ 3)) && (decide (s.size ≤ 16) && areLet k s.data.toList)

/-- the index of a word -/
def idxL (k : Nat) (u : List UInt8) : Nat := u.foldl (fun n c => n * k + (c.toNat - 97)) 0
theorem idxL_snoc (k : Nat) (u : List UInt8) (c : UInt8) : idxL k (u ++ [c]) = idxL k u * k + (c.toNat - 97) := by simp [idxL]
theorem areLet_append (k : Int) (u v : List UInt8) : areLet k (u ++ v) = (areLet k u && areLet k v) := by simp [areLet]
theorem snoc_induction {p : List UInt8 → Prop} (h0 : p []) (hs : ∀ u c, p u → p (u ++ [c])) (u : List UInt8) : p u := by
  have : ∀ n (u : List UInt8), u.length = n → p u := by
    intro n
    induction n with
    | zero => intro u hu; have : u = [] := List.eq_nil_of_length_eq_zero hu; rw [this]; exact h0
    | succ n ih =>
      intro u hu
      have hne : u ≠ [] := by intro h; rw [h] at hu; simp at hu
      rw [← List.dropLast_concat_getLast hne]
      exact hs _ _ (ih _ (by rw [List.length_dropLast]; omega))
  exact this u.length u rfl
theorem idxL_lt (k : Nat) (u : List UInt8) : areLet k u = true → idxL k u < k ^ u.length := by
  refine snoc_induction (p := fun u => areLet k u = true → idxL k u < k ^ u.length) ?_ ?_ u
  · intro _; simp [idxL]
  · intro u c ih h
    rw [areLet_append] at h
    simp only [Bool.and_eq_true] at h
    have h1 := ih h.1
    have h2 : c.toNat - 97 < k := by
      have := h.2
      simp [areLet, isLet] at this
      omega
    rw [idxL_snoc, List.length_append, List.length_singleton, Nat.pow_succ]
    have h3 : (idxL k u + 1) * k ≤ k ^ u.length * k := Nat.mul_le_mul_right k h1
    rw [Nat.succ_mul] at h3
    omega

/-- the letter that a code gives to a word of its width -/
def givesL (K : Nat) (o : ByteArray) (u : List UInt8) : UInt8 := o.data.toList.getD (idxL K u) 0
/-- the part of a word -/
def partL (W i : Nat) (u : List UInt8) : List UInt8 := (u.drop i).take W
theorem partL_length {W i : Nat} {u : List UInt8} (h : i + W ≤ u.length) : (partL W i u).length = W := by simp [partL]; omega
theorem areLet_part {k : Int} {u : List UInt8} (W i : Nat) (h : areLet k u = true) : areLet k (partL W i u) = true := by
  unfold areLet at *
  rw [List.all_eq_true] at *
  intro c hc
  exact h c (List.mem_of_mem_drop (List.mem_of_mem_take hc))
/-- the letters for all parts -/
def applyL (K W : Nat) (o : ByteArray) (u : List UInt8) : List UInt8 := (List.range (u.length + 1 - W)).map fun i => givesL K o (partL W i u)
def applyTo (K W : Nat) (o : ByteArray) (u : List UInt8) (k : Nat) : List UInt8 := (List.range k).map fun i => givesL K o (partL W i u)
theorem applyTo_succ (K W : Nat) (o : ByteArray) (u : List UInt8) (k : Nat) : applyTo K W o u (k + 1) = applyTo K W o u k ++ [givesL K o (partL W k u)] := by simp [applyTo, List.range_succ]
theorem applyTo_length (K W : Nat) (o : ByteArray) (u : List UInt8) (k : Nat) : (applyTo K W o u k).length = k := by simp [applyTo]

theorem extract_part (s : ByteArray) (i W : Nat) : s.extract i (i + W) = mkS (partL W i s.data.toList) := by
  apply ByteArray.ext
  apply Array.ext'
  rw [Lib.extract_data, mkS_data]
  unfold partL
  rw [show i + W - i = W by omega]

/-- a code's parts -/
theorem codeOk_parts {L W : Int} {o : ByteArray} (h : codeOk L W o = true) : ∃ K n : Nat, L = K ∧ W = n ∧ 2 ≤ K ∧ K ≤ 3 ∧ 1 ≤ n ∧ n ≤ 4 ∧ K ^ n ≤ 27 ∧ o.size = K ^ n ∧ areLet K o.data.toList = true := by
  unfold codeOk at h
  simp only [Bool.and_eq_true, Bool.or_eq_true, decide_eq_true_eq] at h
  obtain ⟨hL, h1, h4, h27, hs, ha⟩ := h
  obtain ⟨K, rfl⟩ := Int.eq_ofNat_of_zero_le (show 0 ≤ L by omega)
  obtain ⟨n, rfl⟩ := Int.eq_ofNat_of_zero_le (show 0 ≤ W by omega)
  have hp : pw (K : Int) (n : Int) = ((K ^ n : Nat) : Int) := by simp [pw]
  rw [hp] at h27 hs
  exact ⟨K, n, rfl, rfl, by omega, by omega, by omega, by omega, by omega, by omega, ha⟩
end Go.Cm
namespace Go.Cm
theorem isLet_getD {k : Int} {l : List UInt8} (h : areLet k l = true) {i : Nat} (hi : i < l.length) : isLet k (l.getD i 0) = true := by
  unfold areLet at h
  rw [List.all_eq_true] at h
  rw [List.getD_eq_getElem?_getD, List.getElem?_eq_getElem hi]
  exact h _ (List.getElem_mem _)
theorem areLet_apply {K n : Nat} {o : ByteArray} (hos : o.size = K ^ n) (hoa : areLet K o.data.toList = true) {u : List UInt8} (hu : areLet K u = true) : areLet K (applyL K n o u) = true := by
  unfold areLet
  rw [List.all_eq_true]
  intro c hc
  simp only [applyL, List.mem_map, List.mem_range] at hc
  obtain ⟨i, hi, rfl⟩ := hc
  refine isLet_getD hoa ?_
  have hpl : (partL n i u).length = n := partL_length (by omega)
  have := idxL_lt K (partL n i u) (areLet_part n i hu)
  rw [hpl, ← hos] at this
  simpa using this
theorem applyL_length (K n : Nat) (o : ByteArray) (u : List UInt8) : (applyL K n o u).length = u.length + 1 - n := by simp [applyL]
theorem areLet_wordL (K : Nat) (hK0 : 0 < K) (hK : K ≤ 3) : ∀ n i, areLet K (wordL K n i) = true
  | 0, _ => rfl
  | n + 1, i => by
    have hm : i % K < K := Nat.mod_lt _ hK0
    rw [wordL, areLet_append, areLet_wordL K hK0 hK n]
    have h2 : ((letN (i % K)).toNat : Int) = ((97 + i % K : Nat) : Int) := by unfold letN; exact ofNat_toNat (by omega)
    simp [areLet, isLet, h2]
    omega
theorem mem_wordsL {K n : Nat} {u : List UInt8} (h : u ∈ wordsL K n) (hK0 : 0 < K) (hK : K ≤ 3) : u.length = n ∧ areLet K u = true := by
  simp only [wordsL, List.mem_map] at h
  obtain ⟨i, _, rfl⟩ := h
  exact ⟨wordL_length K n i, areLet_wordL K hK0 hK n i⟩
/-- a code behind another one -/
def composeL (K m : Nat) (o o' : ByteArray) (u : List UInt8) : UInt8 := givesL K o (applyL K m o' u)
end Go.Cm

/- Counts of sources by their last letters. No program in sight. -/
namespace Go.Cm

/-- numbers as cells -/
def ncells (l : List Nat) : List Value := l.map fun x : Nat => Value.int .i64 (x : Int)
theorem ncells_length (l : List Nat) : (ncells l).length = l.length := by simp [ncells]
theorem ncells_at (l : List Nat) (j : Nat) (h : j < l.length) : (ncells l)[j]'(by rw [ncells_length]; exact h) = .int .i64 ((l.getD j 0 : Nat) : Int) := by
  simp [ncells, List.getD_eq_getElem?_getD, List.getElem?_eq_getElem h]
theorem ncells_set (l : List Nat) (j x : Nat) : (ncells l).set j (.int .i64 (x : Int)) = ncells (l.set j x) := by simp [ncells, List.map_set]
theorem ncells_replicate (n x : Nat) : ncells (List.replicate n x) = List.replicate n (.int .i64 (x : Int)) := by simp [ncells]

def hitL (K n : Nat) (o : ByteArray) (c : UInt8) (now : List Nat) (v : Nat) (nx : List Nat) (x : Nat) : List Nat :=
  if o.data.toList.getD (v * K + x) 0 = c then nx.set ((v * K + x) % n) (nx.getD ((v * K + x) % n) 0 + now.getD v 0) else nx
def rowH (K n : Nat) (o : ByteArray) (c : UInt8) (now : List Nat) (v : Nat) (nx : List Nat) (a : Nat) : List Nat := (List.range a).foldl (hitL K n o c now v) nx
def allH (K n : Nat) (o : ByteArray) (c : UInt8) (now : List Nat) (b : Nat) : List Nat := (List.range b).foldl (fun nx v => rowH K n o c now v nx K) (List.replicate n 0)
def stepC (K n : Nat) (o : ByteArray) (now : List Nat) (c : UInt8) : List Nat := allH K n o c now n
def countC (K n : Nat) (o : ByteArray) (u : List UInt8) : List Nat := u.foldl (stepC K n o) (List.replicate n 1)

theorem rowH_zero (K n : Nat) (o : ByteArray) (c : UInt8) (now : List Nat) (v : Nat) (nx : List Nat) : rowH K n o c now v nx 0 = nx := rfl
theorem rowH_succ (K n : Nat) (o : ByteArray) (c : UInt8) (now : List Nat) (v : Nat) (nx : List Nat) (a : Nat) : rowH K n o c now v nx (a + 1) = hitL K n o c now v (rowH K n o c now v nx a) a := by simp [rowH, List.range_succ]
theorem allH_zero (K n : Nat) (o : ByteArray) (c : UInt8) (now : List Nat) : allH K n o c now 0 = List.replicate n 0 := rfl
theorem allH_succ (K n : Nat) (o : ByteArray) (c : UInt8) (now : List Nat) (b : Nat) : allH K n o c now (b + 1) = rowH K n o c now b (allH K n o c now b) K := by simp [allH, List.range_succ]
theorem countC_snoc (K n : Nat) (o : ByteArray) (u : List UInt8) (c : UInt8) : countC K n o (u ++ [c]) = stepC K n o (countC K n o u) c := by simp [countC]

theorem hitL_length (K n : Nat) (o : ByteArray) (c : UInt8) (now : List Nat) (v : Nat) (nx : List Nat) (x : Nat) : (hitL K n o c now v nx x).length = nx.length := by unfold hitL; split <;> simp
theorem rowH_length (K n : Nat) (o : ByteArray) (c : UInt8) (now : List Nat) (v : Nat) (nx : List Nat) (a : Nat) : (rowH K n o c now v nx a).length = nx.length := by
  induction a with
  | zero => rfl
  | succ a ih => rw [rowH_succ, hitL_length, ih]
theorem allH_length (K n : Nat) (o : ByteArray) (c : UInt8) (now : List Nat) (b : Nat) : (allH K n o c now b).length = n := by
  induction b with
  | zero => simp [allH_zero]
  | succ b ih => rw [allH_succ, rowH_length, ih]
theorem countC_length (K n : Nat) (o : ByteArray) (u : List UInt8) : (countC K n o u).length = n := by
  refine snoc_induction (p := fun u => (countC K n o u).length = n) ?_ ?_ u
  · simp [countC]
  · intro u c _; rw [countC_snoc]; exact allH_length ..

/-- all entries are at most so great -/
def Bnd (M : Nat) (l : List Nat) : Prop := ∀ j, l.getD j 0 ≤ M
theorem Bnd.mono {M M' : Nat} {l : List Nat} (h : Bnd M l) (hm : M ≤ M') : Bnd M' l := fun j => Nat.le_trans (h j) hm
theorem Bnd.set {M : Nat} {l : List Nat} (h : Bnd M l) (i x : Nat) (hx : x ≤ M) : Bnd M (l.set i x) := by
  intro j
  rw [List.getD_eq_getElem?_getD, List.getElem?_set]
  have := h j
  rw [List.getD_eq_getElem?_getD] at this
  split
  · split
    · simpa using hx
    · simp
  · exact this
theorem Bnd.replicate (n x : Nat) : Bnd x (List.replicate n x) := by
  intro j
  rw [List.getD_eq_getElem?_getD, List.getElem?_replicate]
  split <;> simp
theorem hitL_bnd {K n : Nat} {o : ByteArray} {c : UInt8} {now : List Nat} {v : Nat} {nx : List Nat} {x M B : Nat} (h : Bnd M nx) (hb : Bnd B now) : Bnd (M + B) (hitL K n o c now v nx x) := by
  unfold hitL
  split
  · exact (h.mono (by omega)).set _ _ (Nat.add_le_add (h _) (hb _))
  · exact h.mono (by omega)
theorem rowH_bnd {K n : Nat} {o : ByteArray} {c : UInt8} {now : List Nat} {v : Nat} {nx : List Nat} {M B : Nat} (h : Bnd M nx) (hb : Bnd B now) : ∀ a, Bnd (M + a * B) (rowH K n o c now v nx a)
  | 0 => by simpa [rowH_zero] using h
  | a + 1 => by
    rw [rowH_succ, Nat.succ_mul, ← Nat.add_assoc]
    exact hitL_bnd (rowH_bnd h hb a) hb
theorem allH_bnd {K n : Nat} {o : ByteArray} {c : UInt8} {now : List Nat} {B : Nat} (hb : Bnd B now) : ∀ b, Bnd (b * (K * B)) (allH K n o c now b)
  | 0 => by rw [allH_zero]; exact (Bnd.replicate n 0).mono (by omega)
  | b + 1 => by
    rw [allH_succ, Nat.succ_mul]
    exact rowH_bnd (allH_bnd hb b) hb K
theorem countC_bnd {K n : Nat} (hnK : n * K ≤ 27) (o : ByteArray) (u : List UInt8) : Bnd (27 ^ u.length) (countC K n o u) := by
  refine snoc_induction (p := fun u => Bnd (27 ^ u.length) (countC K n o u)) ?_ ?_ u
  · simpa [countC] using Bnd.replicate n 1
  · intro u c ih
    rw [countC_snoc, List.length_append, List.length_singleton, Nat.pow_succ]
    refine (allH_bnd ih n).mono ?_
    rw [← Nat.mul_assoc, Nat.mul_comm (27 ^ u.length)]
    exact Nat.mul_le_mul_right _ hnK
theorem pow27_le {k : Nat} (h : k ≤ 8) : 27 ^ k ≤ 282429536481 := by
  have h1 : 27 ^ k ≤ 27 ^ 8 := Nat.pow_le_pow_right (by omega) h
  have h2 : (27 : Nat) ^ 8 = 282429536481 := by decide
  omega
/-- the sum of the first entries -/
def sumTo (l : List Nat) (k : Nat) : Nat := (l.take k).sum
theorem sumTo_succ (l : List Nat) (k : Nat) (h : k < l.length) : sumTo l (k + 1) = sumTo l k + l.getD k 0 := by
  unfold sumTo
  rw [List.take_succ_eq_append_getElem h, List.sum_append, List.getD_eq_getElem?_getD, List.getElem?_eq_getElem h]
  simp
theorem sumTo_all (l : List Nat) : sumTo l l.length = l.sum := by simp [sumTo]
theorem sumTo_le {M : Nat} {l : List Nat} (h : Bnd M l) : ∀ k, sumTo l k ≤ k * M
  | 0 => by simp [sumTo]
  | k + 1 => by
    have ih := sumTo_le h k
    by_cases hk : k < l.length
    · rw [sumTo_succ l k hk, Nat.succ_mul]
      exact Nat.add_le_add ih (h k)
    · have e : sumTo l (k + 1) = sumTo l k := by unfold sumTo; rw [List.take_of_length_le (by omega), List.take_of_length_le (by omega)]
      rw [e, Nat.succ_mul]; omega
end Go.Cm

/- The least source of a word. No program in sight. -/
namespace Go.Cm

/-- the first of the answers for the letters below K -/
def firstOf {α : Type} (K : Nat) (F : Nat → Option α) : Option α := (List.range K).findSome? F
theorem firstOf_none {α : Type} {K : Nat} {F : Nat → Option α} (h : ∀ y, y < K → F y = none) : firstOf K F = none := by
  unfold firstOf
  rw [List.findSome?_eq_none_iff]
  intro y hy
  exact h y (by simpa using hy)
theorem findSome_range {α : Type} (F : Nat → Option α) (r : α) : ∀ (K x : Nat), x < K → (∀ y, y < x → F y = none) → F x = some r → (List.range K).findSome? F = some r
  | 0, x, hx, _, _ => absurd hx (Nat.not_lt_zero _)
  | K + 1, x, hx, hn, hr => by
    rw [List.range_succ, List.findSome?_append]
    by_cases h : x < K
    · rw [findSome_range F r K x h hn hr]; rfl
    · have e : x = K := by omega
      subst e
      have h0 : (List.range x).findSome? F = none := firstOf_none hn
      rw [h0]
      simp [hr]
theorem firstOf_hit {α : Type} {K x : Nat} {F : Nat → Option α} {r : α} (hx : x < K) (hn : ∀ y, y < x → F y = none) (hr : F x = some r) : firstOf K F = some r :=
  findSome_range F r K x hx hn hr

/-- the last letter of a text fits the word -/
def okS (K n : Nat) (o : ByteArray) (u v : List UInt8) : Bool := decide (v.length < n) || decide (givesL K o (v.drop (v.length - n)) = u.getD (v.length - n) 0)
/-- the least source that goes on from a text by so many letters -/
def srcL (K n : Nat) (o : ByteArray) (u : List UInt8) : Nat → List UInt8 → Option (List UInt8)
  | 0, v => some v
  | f + 1, v => firstOf K fun x => if okS K n o u (v ++ [letN x]) = true then srcL K n o u f (v ++ [letN x]) else none
theorem srcL_zero (K n : Nat) (o : ByteArray) (u v : List UInt8) : srcL K n o u 0 v = some v := rfl
theorem srcL_succ (K n : Nat) (o : ByteArray) (u v : List UInt8) (f : Nat) : srcL K n o u (f + 1) v = firstOf K fun x => if okS K n o u (v ++ [letN x]) = true then srcL K n o u f (v ++ [letN x]) else none := rfl
/-- .. if the text fits -/
def srcS (K n : Nat) (o : ByteArray) (u : List UInt8) (f : Nat) (v : List UInt8) : Option (List UInt8) := if okS K n o u v = true then srcL K n o u f v else none
end Go.Cm

/- Undoing codes, twins. No program in sight. -/
namespace Go.Cm

/-- one word more is laid into the table -/
def undoStep (K n a : Nat) (o : ByteArray) (acc : Option (List UInt8)) (u : List UInt8) : Option (List UInt8) :=
  acc.bind fun t => if (t.getD (idxL K (applyL K n o u)) 0 != 0 && t.getD (idxL K (applyL K n o u)) 0 != u.getD a 0) = true then none else some (t.set (idxL K (applyL K n o u)) (u.getD a 0))
def undoTo (K n m a : Nat) (o : ByteArray) (k : Nat) : Option (List UInt8) := ((wordsL K (n + m - 1)).take k).foldl (undoStep K n a o) (some (List.replicate (K ^ m) 0))
/-- letters where nothing was laid -/
def fillA (c : UInt8) : UInt8 := if c = 0 then 97 else c
/-- the table of the code that undoes another one but for a place -/
def undoL (K n m a : Nat) (o : ByteArray) : Option (List UInt8) := (undoTo K n m a o (K ^ (n + m - 1))).map (·.map fillA)
theorem undoTo_zero (K n m a : Nat) (o : ByteArray) : undoTo K n m a o 0 = some (List.replicate (K ^ m) 0) := by simp [undoTo]
theorem undoTo_succ (K n m a : Nat) (o : ByteArray) (k : Nat) (u : List UInt8) (h : (wordsL K (n + m - 1))[k]? = some u) : undoTo K n m a o (k + 1) = undoStep K n a o (undoTo K n m a o k) u := by
  unfold undoTo
  rw [List.take_add_one, h, List.foldl_append]
  rfl
theorem undoTo_none {K n m a : Nat} {o : ByteArray} {k : Nat} (h : undoTo K n m a o k = none) : ∀ j, undoTo K n m a o (k + j) = none
  | 0 => h
  | j + 1 => by
    have ih := undoTo_none h j
    rw [← Nat.add_assoc]
    cases hu : (wordsL K (n + m - 1))[k + j]? with
    | some u => rw [undoTo_succ _ _ _ _ _ _ u hu, ih]; rfl
    | none =>
      unfold undoTo at ih ⊢
      rw [List.take_add_one, hu]
      simpa using ih
theorem undoL_none {K n m a : Nat} {o : ByteArray} {k : Nat} (hk : k ≤ K ^ (n + m - 1)) (h : undoTo K n m a o k = none) : undoL K n m a o = none := by
  have := undoTo_none h (K ^ (n + m - 1) - k)
  rw [show k + (K ^ (n + m - 1) - k) = K ^ (n + m - 1) by omega] at this
  unfold undoL
  rw [this]; rfl
theorem undoTo_length {K n m a : Nat} {o : ByteArray} : ∀ {k : Nat} {t : List UInt8}, undoTo K n m a o k = some t → t.length = K ^ m
  | 0, t, h => by rw [undoTo_zero] at h; cases h; simp
  | k + 1, t, h => by
    cases hu : (wordsL K (n + m - 1))[k]? with
    | none =>
      have e : undoTo K n m a o (k + 1) = undoTo K n m a o k := by
        unfold undoTo
        rw [List.take_add_one, hu]
        simp
      rw [e] at h
      exact undoTo_length h
    | some u =>
      rw [undoTo_succ _ _ _ _ _ _ u hu] at h
      cases hk : undoTo K n m a o k with
      | none => rw [hk] at h; cases h
      | some t' =>
        have ih := undoTo_length hk
        rw [hk] at h
        simp only [undoStep, Option.bind_some] at h
        split at h
        · cases h
        · cases h; simpa using ih

/-- letters laid in the first k places -/
def fillTo (t : List UInt8) (k : Nat) : List UInt8 := (t.take k).map fillA ++ t.drop k
theorem fillTo_zero (t : List UInt8) : fillTo t 0 = t := by simp [fillTo]
theorem fillTo_all (t : List UInt8) : fillTo t t.length = t.map fillA := by simp [fillTo]
theorem fillTo_length (t : List UInt8) (k : Nat) (h : k ≤ t.length) : (fillTo t k).length = t.length := by simp [fillTo]; omega
theorem fillTo_at (t : List UInt8) (k : Nat) (h : k < t.length) : (fillTo t k).getD k 0 = t.getD k 0 := by
  unfold fillTo
  have hl : ((t.take k).map fillA).length = k := by simp; omega
  rw [List.getD_eq_getElem?_getD, List.getElem?_append_right (by omega), hl, Nat.sub_self, List.getD_eq_getElem?_getD, List.getElem?_drop, Nat.add_zero]
theorem fillTo_succ (t : List UInt8) (k : Nat) (h : k < t.length) : fillTo t (k + 1) = (fillTo t k).set k (fillA (t.getD k 0)) := by
  unfold fillTo
  have hl : ((t.take k).map fillA).length = k := by simp; omega
  rw [List.set_append_right _ _ (by omega), hl, Nat.sub_self, List.take_succ_eq_append_getElem h, List.map_append, List.drop_eq_getElem_cons h, List.set_cons_zero, List.append_assoc, List.getD_eq_getElem?_getD, List.getElem?_eq_getElem h]
  rfl
theorem fillTo_keep (t : List UInt8) (k : Nat) (h : k < t.length) (hz : t.getD k 0 ≠ 0) : fillTo t (k + 1) = fillTo t k := by
  rw [fillTo_succ t k h]
  have e : fillA (t.getD k 0) = (fillTo t k).getD k 0 := by rw [fillTo_at t k h]; unfold fillA; rw [if_neg hz]
  rw [e]
  have hl := fillTo_length t k (by omega)
  apply List.ext_getElem
  · simp
  · intro i h1 h2
    rw [List.getElem_set]
    split
    · rename_i e; subst e; rw [List.getD_eq_getElem?_getD, List.getElem?_eq_getElem h2]; rfl
    · rfl

/-- two words with the same ends and the same letters -/
def twinB (K n : Nat) (o : ByteArray) (u v : List UInt8) : Bool :=
  decide (u.take (n - 1) = v.take (n - 1)) && (decide (u.drop (u.length - (n - 1)) = v.drop (v.length - (n - 1))) && decide (applyL K n o u = applyL K n o v))
def twinAt (K n : Nat) (o : ByteArray) (l : List (List UInt8)) (i : Nat) : Option (List UInt8 × List UInt8) :=
  firstOf l.length fun j => if i < j ∧ twinB K n o (l.getD i []) (l.getD j []) = true then some (l.getD i [], l.getD j []) else none
def twinOf (K n : Nat) (o : ByteArray) (m : Nat) : Option (List UInt8 × List UInt8) :=
  firstOf (wordsL K m).length fun i => twinAt K n o (wordsL K m) i
/-- the first twins -/
def twinL (K n : Nat) (o : ByteArray) : Option (List UInt8 × List UInt8) :=
  firstOf 8 fun m => if n ≤ m then twinOf K n o m else none
end Go.Cm

/- Permutive codes. No program in sight. -/
namespace Go.Cm

/-- where the letter lies -/
def atL (K N i x : Nat) (r : Bool) : Nat := if r then x * N + i else i * K + x
/-- the letters, as numbers, of a group -/
def rowL (K N : Nat) (o : ByteArray) (r : Bool) (i a : Nat) : List Nat := (List.range a).map fun x => (o.data.toList.getD (atL K N i x r) 0).toNat - 97
theorem rowL_succ (K N : Nat) (o : ByteArray) (r : Bool) (i a : Nat) : rowL K N o r i (a + 1) = rowL K N o r i a ++ [(o.data.toList.getD (atL K N i a r) 0).toNat - 97] := by simp [rowL, List.range_succ]

def permB (K m : Nat) (o : ByteArray) (r : Bool) : Bool := (List.range (K ^ m)).all fun i => decide (rowL K (K ^ m) o r i K).Nodup

theorem nodup_snoc {l : List Nat} {x : Nat} : (l ++ [x]).Nodup ↔ l.Nodup ∧ x ∉ l := by
  simp [List.nodup_append]
  intro _
  constructor
  · intro h hx; exact h x hx rfl
  · intro h a ha e; subst e; exact h ha

theorem permB_bad {K m : Nat} {o : ByteArray} {r : Bool} {i a : Nat} (hi : i < K ^ m) (ha : a < K) (h : (o.data.toList.getD (atL K (K ^ m) i a r) 0).toNat - 97 ∈ rowL K (K ^ m) o r i a) : permB K m o r = false := by
  unfold permB
  rw [List.all_eq_false]
  refine ⟨i, by simpa using hi, ?_⟩
  simp only [decide_eq_true_eq]
  intro hn
  have h2 : ∀ b, a + 1 + b ≤ K → ¬ (rowL K (K ^ m) o r i (a + 1 + b)).Nodup := by
    intro b
    induction b with
    | zero => intro _ hn; rw [Nat.add_zero, rowL_succ, nodup_snoc] at hn; exact hn.2 h
    | succ b ih => intro hb hn; rw [← Nat.add_assoc, rowL_succ, nodup_snoc] at hn; exact ih (by omega) hn.1
  have := h2 (K - (a + 1)) (by omega)
  rw [show a + 1 + (K - (a + 1)) = K by omega] at this
  exact this hn

theorem permB_all {K m : Nat} {o : ByteArray} {r : Bool} (h : ∀ i, i < K ^ m → (rowL K (K ^ m) o r i K).Nodup) : permB K m o r = true := by
  unfold permB
  rw [List.all_eq_true]
  intro i hi
  simpa using h i (by simpa using hi)

theorem atL_lt {K m i x : Nat} {r : Bool} (hi : i < K ^ m) (hx : x < K) : atL K (K ^ m) i x r < K ^ (m + 1) := by
  unfold atL
  rw [Nat.pow_succ]
  split
  · have : (x + 1) * K ^ m ≤ K * K ^ m := Nat.mul_le_mul_right _ hx
    rw [Nat.succ_mul, Nat.mul_comm K] at this
    omega
  · have : (i + 1) * K ≤ K ^ m * K := Nat.mul_le_mul_right _ hi
    rw [Nat.succ_mul] at this
    omega
end Go.Cm

/- A word that goes on with itself. No program in sight. -/
namespace Go.Cm
open Go.Lib (repeatL repeatL_length repeatL_add repeatL_one)

/-- the word and its first letters behind it -/
def ringW (n : Nat) (u : List UInt8) : List UInt8 := (repeatL u n).take (u.length + n - 1)
def ringL (K n : Nat) (o : ByteArray) (u : List UInt8) : List UInt8 := applyL K n o (ringW n u)

theorem ring_fits {n : Nat} {u : List UInt8} (hn : 1 ≤ n) (hu : 1 ≤ u.length) : u.length + n - 1 ≤ n * u.length := by
  obtain ⟨a, rfl⟩ : ∃ a, n = a + 1 := ⟨n - 1, by omega⟩
  obtain ⟨b, hb⟩ : ∃ b, u.length = b + 1 := ⟨u.length - 1, by omega⟩
  rw [hb, Nat.succ_mul]
  have : a * 1 ≤ a * (b + 1) := Nat.mul_le_mul_left _ (by omega)
  omega
theorem ringW_of {n a : Nat} {u : List UInt8} (hn : 1 ≤ n) (hu : 1 ≤ u.length) (ha : u.length + n - 1 ≤ (repeatL u a).length) : (repeatL u a).take (u.length + n - 1) = ringW n u := by
  unfold ringW
  have h2 := ring_fits hn hu
  by_cases h : a ≤ n
  · rw [show n = a + (n - a) by omega, repeatL_add, show u.length + (a + (n - a)) - 1 = u.length + n - 1 by omega, List.take_append_of_le_length ha]
  · have hl := repeatL_length u n
    rw [show a = n + (a - n) by omega, repeatL_add, List.take_append_of_le_length (by omega)]
theorem ringW_length {n : Nat} {u : List UInt8} (hn : 1 ≤ n) (hu : 1 ≤ u.length) : (ringW n u).length = u.length + n - 1 := by
  unfold ringW
  rw [List.length_take, repeatL_length]
  have := ring_fits hn hu
  omega
theorem areLet_repeat {k : Int} {u : List UInt8} (h : areLet k u = true) : ∀ a, areLet k (repeatL u a) = true
  | 0 => rfl
  | a + 1 => by rw [repeatL, areLet_append, h, areLet_repeat h a]; rfl
theorem areLet_take {k : Int} {u : List UInt8} (h : areLet k u = true) (a : Nat) : areLet k (u.take a) = true := by
  unfold areLet at *
  rw [List.all_eq_true] at *
  intro c hc
  exact h c (List.mem_of_mem_take hc)
theorem areLet_ring {k : Int} {u : List UInt8} (h : areLet k u = true) (n : Nat) : areLet k (ringW n u) = true := areLet_take (areLet_repeat h n) _
theorem ringL_length {K n : Nat} {o : ByteArray} {u : List UInt8} (hn : 1 ≤ n) (hu : 1 ≤ u.length) : (ringL K n o u).length = u.length := by
  unfold ringL
  rw [applyL_length, ringW_length hn hu]
  omega
/-- a code takes a ring -/
def ringOk (L W : Int) (o s : ByteArray) : Bool := codeOk L W o && (wordOk L s && decide (1 ≤ s.size))
end Go.Cm

/- Words and their numbers of sources, all together. No program in sight. -/
namespace Go.Cm

theorem sum_set (l : List Nat) (i x : Nat) (h : i < l.length) : (l.set i (l.getD i 0 + x)).sum = l.sum + x := by
  induction l generalizing i with
  | nil => simp at h
  | cons a l ih =>
    cases i with
    | zero => simp; omega
    | succ i =>
      have := ih i (by simpa using h)
      simp only [List.getD_eq_getElem?_getD, List.set_cons_succ, List.sum_cons, List.getElem?_cons_succ] at this ⊢
      omega

/-- what one pair adds to the sum -/
def addH (K : Nat) (o : ByteArray) (c : UInt8) (now : List Nat) (v x : Nat) : Nat := if o.data.toList.getD (v * K + x) 0 = c then now.getD v 0 else 0
theorem hitL_sum {K n : Nat} (hn : 0 < n) (o : ByteArray) (c : UInt8) (now : List Nat) (v : Nat) (nx : List Nat) (x : Nat) (hl : nx.length = n) : (hitL K n o c now v nx x).sum = nx.sum + addH K o c now v x := by
  unfold hitL addH
  split
  · exact sum_set nx _ _ (by rw [hl]; exact Nat.mod_lt _ hn)
  · omega
def addR (K : Nat) (o : ByteArray) (c : UInt8) (now : List Nat) (v a : Nat) : Nat := ((List.range a).map fun x => addH K o c now v x).sum
theorem rowH_sum {K n : Nat} (hn : 0 < n) (o : ByteArray) (c : UInt8) (now : List Nat) (v : Nat) (nx : List Nat) (hl : nx.length = n) : ∀ a, (rowH K n o c now v nx a).sum = nx.sum + addR K o c now v a
  | 0 => by simp [rowH_zero, addR]
  | a + 1 => by
    rw [rowH_succ, hitL_sum hn _ _ _ _ _ _ (by rw [rowH_length]; exact hl), rowH_sum hn o c now v nx hl a]
    simp [addR, List.range_succ]
    omega
def addA (K : Nat) (o : ByteArray) (c : UInt8) (now : List Nat) (b : Nat) : Nat := ((List.range b).map fun v => addR K o c now v K).sum
theorem allH_sum {K n : Nat} (hn : 0 < n) (o : ByteArray) (c : UInt8) (now : List Nat) : ∀ b, (allH K n o c now b).sum = addA K o c now b
  | 0 => by simp [allH_zero, addA]
  | b + 1 => by
    rw [allH_succ, rowH_sum hn o c now b _ (allH_length ..) K, allH_sum hn o c now b]
    simp [addA, List.range_succ]

/-- sums over the letters exchange -/
theorem sum_add {α : Type} (l : List α) (f g : α → Nat) : (l.map fun y => f y + g y).sum = (l.map f).sum + (l.map g).sum := by
  induction l with
  | nil => rfl
  | cons a l ih => simp only [List.map_cons, List.sum_cons, ih]; omega
theorem sum_mul {α : Type} (l : List α) (f : α → Nat) (k : Nat) : (l.map fun y => f y * k).sum = (l.map f).sum * k := by
  induction l with
  | nil => simp
  | cons a l ih => simp only [List.map_cons, List.sum_cons, ih, Nat.add_mul]
theorem sum_swap {α β : Type} (l : List α) (m : List β) (f : α → β → Nat) : (l.map fun y => (m.map fun x => f y x).sum).sum = (m.map fun x => (l.map fun y => f y x).sum).sum := by
  induction l with
  | nil => simp [List.map_const']
  | cons a l ih => simp only [List.map_cons, List.sum_cons, ih, sum_add]
theorem sum_ext {α : Type} (l : List α) (f g : α → Nat) (h : ∀ y ∈ l, f y = g y) : (l.map f).sum = (l.map g).sum := by
  rw [List.map_congr_left h]

theorem letN_inj {x y : Nat} (hx : x < 3) (hy : y < 3) (h : letN x = letN y) : x = y := by
  match x, y, hx, hy with
  | 0, 0, _, _ => rfl
  | 1, 1, _, _ => rfl
  | 2, 2, _, _ => rfl
  | 0, 1, _, _ => exact absurd h (by decide)
  | 0, 2, _, _ => exact absurd h (by decide)
  | 1, 0, _, _ => exact absurd h (by decide)
  | 1, 2, _, _ => exact absurd h (by decide)
  | 2, 0, _, _ => exact absurd h (by decide)
  | 2, 1, _, _ => exact absurd h (by decide)
theorem isLet_letN {K : Nat} (hK : K ≤ 3) {c : UInt8} (h : isLet K c = true) : ∃ y, y < K ∧ c = letN y := by
  simp only [isLet, Bool.and_eq_true, decide_eq_true_eq] at h
  refine ⟨c.toNat - 97, by omega, ?_⟩
  apply UInt8.toNat_inj.1
  have := ofNat_toNat (n := 97 + (c.toNat - 97)) (by omega)
  unfold letN
  omega
/-- just one letter is hit -/
theorem one_letter {K : Nat} (hK : K ≤ 3) {c : UInt8} (h : isLet K c = true) (q : Nat) : ((List.range K).map fun y => if c = letN y then q else 0).sum = q := by
  obtain ⟨z, hz, rfl⟩ := isLet_letN hK h
  have e : ((List.range K).map fun y => if letN z = letN y then q else 0) = (List.range K).map fun y => if z = y then q else 0 := by
    apply List.map_congr_left
    intro y hy
    have hy' : y < K := by simpa using hy
    by_cases hzy : z = y
    · simp [hzy]
    · rw [if_neg hzy, if_neg (fun h => hzy (letN_inj (by omega) (by omega) h))]
  rw [e]
  clear e h
  have : ∀ K, ((List.range K).map fun y => if z = y then q else 0).sum = if z < K then q else 0 := by
    intro K
    induction K with
    | zero => simp
    | succ K ih =>
      rw [List.range_succ, List.map_append, List.sum_append, ih]
      by_cases h1 : z < K
      · rw [if_pos h1, if_pos (by omega)]
        simp
        omega
      · by_cases h2 : z = K
        · subst h2; simp
        · rw [if_neg h1, if_neg (by omega)]
          simp
          omega
  rw [this K, if_pos hz]

theorem sum_getD (l : List Nat) : ((List.range l.length).map fun v => l.getD v 0).sum = l.sum := by
  congr 1
  apply List.ext_getElem
  · simp
  · intro i h1 h2
    have : i < l.length := by simpa using h1
    simp [List.getD_eq_getElem?_getD, List.getElem?_eq_getElem this]

/-- The letters together: each source goes on in K ways. -/
theorem step_sum {K n : Nat} (hn : 0 < n) (hK : K ≤ 3) (o : ByteArray) (hos : o.size = n * K) (hoa : areLet K o.data.toList = true) (now : List Nat) (hl : now.length = n) :
    ((List.range K).map fun y => (stepC K n o now (letN y)).sum).sum = now.sum * K := by
  have e1 : ∀ y ∈ List.range K, (stepC K n o now (letN y)).sum = addA K o (letN y) now n := fun y _ => allH_sum hn o _ now n
  rw [sum_ext _ _ _ e1]
  unfold addA
  rw [sum_swap]
  have e2 : ∀ v ∈ List.range n, ((List.range K).map fun y => addR K o (letN y) now v K).sum = now.getD v 0 * K := by
    intro v hv
    have hv' : v < n := by simpa using hv
    unfold addR
    rw [sum_swap]
    have e3 : ∀ x ∈ List.range K, ((List.range K).map fun y => addH K o (letN y) now v x).sum = now.getD v 0 := by
      intro x hx
      have hx' : x < K := by simpa using hx
      unfold addH
      refine one_letter hK (isLet_getD hoa ?_) _
      have h1 : (v + 1) * K ≤ n * K := Nat.mul_le_mul_right K hv'
      rw [Nat.succ_mul] at h1
      have h2 : o.data.toList.length = o.size := by simp
      omega
    rw [sum_ext _ _ _ e3]
    simp [List.map_const', List.sum_replicate_nat, Nat.mul_comm]
  rw [sum_ext _ _ _ e2, sum_mul]
  congr 1
  rw [← hl]
  exact sum_getD now

/-- All words of a length together have so many sources. -/
theorem all_sum {K n : Nat} (hn : 0 < n) (hK0 : 0 < K) (hK : K ≤ 3) (o : ByteArray) (hos : o.size = n * K) (hoa : areLet K o.data.toList = true) :
    ∀ m, ((wordsL K m).map fun u => (countC K n o u).sum).sum = K ^ m * n
  | 0 => by simp [wordsL_zero, countC, List.sum_replicate_nat]
  | m + 1 => by
    rw [wordsL_succ K m hK0, List.map_flatMap]
    have e : ∀ l : List (List UInt8), (l.flatMap fun u => (((List.range K).map fun x => u ++ [letN x]).map fun u => (countC K n o u).sum)).sum = (l.map fun u => (countC K n o u).sum).sum * K := by
      intro l
      induction l with
      | nil => simp
      | cons a l ih =>
        rw [List.flatMap_cons, List.sum_append, ih, List.map_cons, List.sum_cons, Nat.add_mul]
        congr 1
        rw [List.map_map]
        have := step_sum hn hK o hos hoa (countC K n o a) (countC_length ..)
        rw [← this]
        congr 1
        apply List.map_congr_left
        intro x _
        simp only [Function.comp, countC_snoc]
    rw [e, all_sum hn hK0 hK o hos hoa m, Nat.pow_succ]
    rw [Nat.mul_right_comm]

theorem sum_const {α : Type} (l : List α) (f : α → Nat) (q : Nat) (h : ∀ y ∈ l, f y = q) : (l.map f).sum = l.length * q := by
  rw [sum_ext l f (fun _ => q) h, List.map_const', List.sum_replicate_nat]

/-- If all words of a length have as many sources, then each has the number of ends. -/
theorem balanced_is {K n : Nat} (hn : 0 < n) (hK0 : 0 < K) (hK : K ≤ 3) (o : ByteArray) (hos : o.size = n * K) (hoa : areLet K o.data.toList = true) (m q : Nat) (h : ∀ u ∈ wordsL K m, (countC K n o u).sum = q) : q = n := by
  have h1 := all_sum hn hK0 hK o hos hoa m
  rw [sum_const _ _ q h] at h1
  have h2 : (wordsL K m).length = K ^ m := by simp [wordsL]
  rw [h2] at h1
  exact Nat.eq_of_mul_eq_mul_left (Nat.pow_pos hK0) h1
end Go.Cm

/- Words of groups. No program in sight. -/
namespace Go.Cm

theorem letN_num {y : Nat} (h : y < 100) : (letN y).toNat - 97 = y := by
  have : ((letN y).toNat : Int) = ((97 + y : Nat) : Int) := by unfold letN; exact ofNat_toNat (by omega)
  omega

theorem idxL_wordL (K : Nat) (hK0 : 0 < K) (hK : K ≤ 3) : ∀ m i, i < K ^ m → idxL K (wordL K m i) = i
  | 0, i, h => by simp at h; subst h; rfl
  | m + 1, i, h => by
    have hm : i % K < K := Nat.mod_lt _ hK0
    rw [wordL, idxL_snoc, idxL_wordL K hK0 hK m (i / K) (by rw [Nat.pow_succ] at h; exact Nat.div_lt_of_lt_mul (by rw [Nat.mul_comm]; exact h)), letN_num (by omega)]
    exact Nat.div_add_mod' i K

theorem idxL_cons (K : Nat) (c : UInt8) (u : List UInt8) : idxL K (c :: u) = (c.toNat - 97) * K ^ u.length + idxL K u := by
  refine snoc_induction (p := fun u => idxL K (c :: u) = (c.toNat - 97) * K ^ u.length + idxL K u) ?_ ?_ u
  · simp [idxL]
  · intro u d ih
    have e : c :: (u ++ [d]) = (c :: u) ++ [d] := rfl
    rw [e, idxL_snoc, idxL_snoc, ih, List.length_append, List.length_singleton, Nat.pow_succ, Nat.add_mul, Nat.mul_assoc, Nat.add_assoc]

/-- the word of a group with a letter at its end, or ahead -/
def grpL (K m i x : Nat) (r : Bool) : List UInt8 := if r then letN x :: wordL K m i else wordL K m i ++ [letN x]
theorem grpL_length (K m i x : Nat) (r : Bool) : (grpL K m i x r).length = m + 1 := by unfold grpL; split <;> simp [wordL_length]
theorem areLet_grp (K m i x : Nat) (r : Bool) (hK0 : 0 < K) (hK : K ≤ 3) (hx : x < K) : areLet K (grpL K m i x r) = true := by
  have h1 := areLet_wordL K hK0 hK m i
  have h2 : areLet K [letN x] = true := by
    have h2 : ((letN x).toNat : Int) = ((97 + x : Nat) : Int) := by unfold letN; exact ofNat_toNat (by omega)
    simp [areLet, isLet, h2]
    omega
  unfold grpL
  split
  · have e : letN x :: wordL K m i = [letN x] ++ wordL K m i := rfl
    rw [e, areLet_append, h1, h2]; rfl
  · rw [areLet_append, h1, h2]; rfl
theorem idxL_grp (K m i x : Nat) (r : Bool) (hK0 : 0 < K) (hK : K ≤ 3) (hx : x < K) (hi : i < K ^ m) : idxL K (grpL K m i x r) = atL K (K ^ m) i x r := by
  unfold grpL atL
  split
  · rw [idxL_cons, idxL_wordL K hK0 hK m i hi, wordL_length, letN_num (by omega)]
  · rw [idxL_snoc, idxL_wordL K hK0 hK m i hi, letN_num (by omega)]

/-- the letters of a group -/
def grpS (K m : Nat) (o : ByteArray) (r : Bool) (i a : Nat) : List UInt8 := (List.range a).map fun x => givesL K o (grpL K m i x r)
theorem grpS_succ (K m : Nat) (o : ByteArray) (r : Bool) (i a : Nat) : grpS K m o r i (a + 1) = grpS K m o r i a ++ [givesL K o (grpL K m i a r)] := by simp [grpS, List.range_succ]
theorem grpS_length (K m : Nat) (o : ByteArray) (r : Bool) (i a : Nat) : (grpS K m o r i a).length = a := by simp [grpS]
theorem rowL_grpS (K m : Nat) (o : ByteArray) (r : Bool) (i a : Nat) (hK0 : 0 < K) (hK : K ≤ 3) (ha : a ≤ K) (hi : i < K ^ m) : rowL K (K ^ m) o r i a = (grpS K m o r i a).map fun c => c.toNat - 97 := by
  unfold rowL grpS
  rw [List.map_map]
  apply List.map_congr_left
  intro x hx
  have hx' : x < a := by simpa using hx
  simp only [Function.comp, givesL, idxL_grp K m i x r hK0 hK (by omega) hi]

/-- letters that are such are alike if their numbers are -/
theorem num_inj {k k' : Int} {c d : UInt8} (hc : isLet k c = true) (hd : isLet k' d = true) (h : c.toNat - 97 = d.toNat - 97) : c = d := by
  simp only [isLet, Bool.and_eq_true, decide_eq_true_eq] at hc hd
  exact UInt8.toNat_inj.1 (by omega)
end Go.Cm

/- Plain facts of counting for the theorems on words: pigeons, growth, words in two parts. No program in sight. -/
namespace Go.Cm

theorem inj_le {α β : Type} [DecidableEq β] (f : α → β) : ∀ (l : List α) (l2 : List β), l.Nodup → (∀ x ∈ l, f x ∈ l2) → (∀ x ∈ l, ∀ y ∈ l, f x = f y → x = y) → l.length ≤ l2.length
  | [], _, _, _, _ => by simp
  | a :: l, l2, hn, hm, hi => by
    have hn' := List.nodup_cons.1 hn
    have h1 := inj_le f l (l2.erase (f a)) hn'.2 (fun x hx => by
      have hne : f x ≠ f a := fun e => hn'.1 (hi x (by simp [hx]) a (by simp) e ▸ hx)
      exact (List.mem_erase_of_ne hne).2 (hm x (by simp [hx]))) (fun x hx y hy => hi x (by simp [hx]) y (by simp [hy]))
    have h2 : f a ∈ l2 := hm a (by simp)
    rw [List.length_erase_of_mem h2] at h1
    have h3 := List.length_pos_of_mem h2
    simp
    omega
/-- two pigeons in one hole -/
theorem pigeons {α β : Type} [DecidableEq β] (f : α → β) (l : List α) (l2 : List β) (hn : l.Nodup) (hm : ∀ x ∈ l, f x ∈ l2) (h : l2.length < l.length) : ∃ x, x ∈ l ∧ ∃ y, y ∈ l ∧ x ≠ y ∧ f x = f y := by
  apply Classical.byContradiction
  intro hno
  have := inj_le f l l2 hn hm (fun x hx y hy e => Classical.byContradiction fun hne => hno ⟨x, hx, y, hy, hne, e⟩)
  omega

theorem bernoulli (b : Nat) : ∀ k, (b + k) * b ^ k ≤ b * (b + 1) ^ k
  | 0 => by simp
  | k + 1 => by
    have h := bernoulli b k
    have h1 : (b + (k + 1)) * b ^ (k + 1) ≤ (b + k) * b ^ k * (b + 1) := by
      rw [Nat.pow_succ]
      have e1 : (b + (k + 1)) * (b ^ k * b) = ((b + (k + 1)) * b) * b ^ k := by rw [Nat.mul_assoc, Nat.mul_comm b (b ^ k)]
      have e2 : (b + k) * b ^ k * (b + 1) = ((b + k) * (b + 1)) * b ^ k := by rw [Nat.mul_assoc, Nat.mul_comm (b ^ k), ← Nat.mul_assoc]
      rw [e1, e2]
      apply Nat.mul_le_mul_right
      rw [Nat.mul_add, Nat.mul_one, show b + (k + 1) = (b + k) + 1 by omega, Nat.add_mul, Nat.one_mul]
      omega
    calc (b + (k + 1)) * b ^ (k + 1) ≤ (b + k) * b ^ k * (b + 1) := h1
      _ ≤ b * (b + 1) ^ k * (b + 1) := Nat.mul_le_mul_right _ h
      _ = b * (b + 1) ^ (k + 1) := by rw [Nat.pow_succ, Nat.mul_assoc]
/-- a power overtakes a lesser one, whatever the factor -/
theorem growth (b c : Nat) : ∃ k, c * b ^ k < (b + 1) ^ k := by
  by_cases hb : b = 0
  · subst hb
    exact ⟨1, by simp⟩
  · refine ⟨b * c, ?_⟩
    have h := bernoulli b (b * c)
    have hp : 0 < b ^ (b * c) := Nat.pow_pos (by omega)
    have h2 : b * (c * b ^ (b * c)) < b * (b + 1) ^ (b * c) := by
      have h3 : b * (c * b ^ (b * c)) < (b + b * c) * b ^ (b * c) := by
        rw [← Nat.mul_assoc, Nat.add_mul]
        have : 0 < b * b ^ (b * c) := Nat.mul_pos (by omega) hp
        omega
      omega
    exact Nat.lt_of_mul_lt_mul_left h2

/-- a word in two parts -/
theorem wordsL_add (k a : Nat) (hk : 0 < k) : ∀ b, wordsL k (a + b) = (wordsL k a).flatMap fun s => (wordsL k b).map fun t => s ++ t
  | 0 => by simp [wordsL_zero]
  | b + 1 => by
    rw [← Nat.add_assoc, wordsL_succ k (a + b) hk, wordsL_add k a hk b, wordsL_succ k b hk, List.flatMap_assoc]
    congr 1
    funext s
    rw [List.flatMap_map, List.map_flatMap]
    congr 1
    funext t
    simp
/-- how many words have a given first and a given second part -/
theorem countP_two (k a b : Nat) (hk : 0 < k) (p q : List UInt8 → Bool) :
    (wordsL k (a + b)).countP (fun s => p (s.take a) && q (s.drop a)) = (wordsL k a).countP p * (wordsL k b).countP q := by
  rw [wordsL_add k a hk b]
  have hl : ∀ s ∈ wordsL k a, s.length = a := by
    intro s hs
    obtain ⟨i, _, rfl⟩ := List.mem_map.1 hs
    exact wordL_length k a i
  generalize wordsL k a = A at hl ⊢
  induction A with
  | nil => simp
  | cons s A ih =>
    have h1 := ih (fun s hs => hl s (by simp [hs]))
    have hs := hl s (by simp)
    rw [List.flatMap_cons, List.countP_append, h1, List.countP_map]
    have h2 : ((fun s => p (s.take a) && q (s.drop a)) ∘ fun t => s ++ t) = fun t => p s && q t := by
      funext t
      simp [← hs]
    rw [h2]
    cases hp : p s with
    | true => simp [hp, Nat.add_mul, Nat.add_comm]
    | false => simp [hp]
theorem wordsL_length (k n : Nat) : (wordsL k n).length = k ^ n := by simp [wordsL]
end Go.Cm

/- A code that is onto gives every word the same number of sources: the counting. No program in sight. -/
namespace Go.Cm

theorem applyL_drop {K n : Nat} (hn : 1 ≤ n) (o : ByteArray) (u : List UInt8) (i : Nat) : (applyL K n o u).drop i = applyL K n o (u.drop i) := by
  apply List.ext_getElem
  · simp only [List.length_drop, applyL_length]
    omega
  · intro j h1 h2
    simp [applyL, partL, List.drop_drop]
theorem applyL_take {K n : Nat} (hn : 1 ≤ n) (o : ByteArray) (u : List UInt8) (a : Nat) (h : a + (n - 1) ≤ u.length) : (applyL K n o u).take a = applyL K n o (u.take (a + (n - 1))) := by
  apply List.ext_getElem
  · simp only [List.length_take, applyL_length]
    omega
  · intro j h1 h2
    have hj : j < a := by simp at h1; omega
    simp only [applyL, List.getElem_take, List.getElem_map, List.getElem_range]
    congr 1
    unfold partL
    rw [List.drop_take, List.take_take]
    congr 1
    omega
theorem mem_of_let {K : Nat} (hK0 : 0 < K) (hK : K ≤ 3) (u : List UInt8) : areLet K u = true → u ∈ wordsL K u.length := by
  refine snoc_induction (p := fun u => areLet K u = true → u ∈ wordsL K u.length) ?_ ?_ u
  · intro _
    simp [wordsL_zero]
  · intro u c ih h
    rw [areLet_append] at h
    simp only [Bool.and_eq_true] at h
    obtain ⟨y, hy, rfl⟩ := isLet_letN hK (show isLet K c = true by simpa [areLet] using h.2)
    rw [List.length_append]
    show u ++ [letN y] ∈ wordsL K (u.length + 1)
    rw [wordsL_succ K _ hK0]
    exact List.mem_flatMap.2 ⟨u, ih h.1, List.mem_map.2 ⟨y, List.mem_range.2 hy, rfl⟩⟩
theorem wordsL_nodup {K : Nat} (hK0 : 0 < K) (hK : K ≤ 3) : ∀ n, (wordsL K n).Nodup
  | 0 => by simp [wordsL_zero]
  | n + 1 => by
    rw [wordsL_succ K n hK0]
    have ih := wordsL_nodup hK0 hK n
    rw [List.Nodup, List.pairwise_flatMap]
    refine ⟨fun u _ => ?_, ih.imp fun {u v} hne x hx y hy e => ?_⟩
    · rw [List.pairwise_map]
      refine List.Pairwise.imp_of_mem (fun {x y} hx hy hne e => ?_) List.nodup_range
      have e' := (List.append_inj e rfl).2
      exact hne (letN_inj (by have := List.mem_range.1 hx; omega) (by have := List.mem_range.1 hy; omega) (List.cons.inj e').1)
    · obtain ⟨a, _, rfl⟩ := List.mem_map.1 hx
      obtain ⟨b, _, rfl⟩ := List.mem_map.1 hy
      exact hne (List.append_inj_left' e rfl)

theorem countP_one {α : Type} (p : α → Bool) : ∀ (U : List α), U.Nodup → (∀ u ∈ U, ∀ v ∈ U, p u = true → p v = true → u = v) → U.countP p = if U.any p = true then 1 else 0
  | [], _, _ => by simp
  | u :: U, hn, h => by
    have hn' := List.nodup_cons.1 hn
    have ih := countP_one p U hn'.2 (fun a ha b hb => h a (by simp [ha]) b (by simp [hb]))
    cases hp : p u with
    | true =>
      have h0 : U.countP p = 0 := by
        rw [List.countP_eq_zero]
        intro v hv hpv
        have := h u (by simp) v (by simp [hv]) hp hpv
        exact hn'.1 (this ▸ hv)
      simp [hp, h0]
    | false => simpa [hp] using ih
theorem sum_countP {α β : Type} (U : List α) (hU : U.Nodup) (P : β → α → Bool) (Q : β → Bool) : ∀ (S : List β), (∀ s ∈ S, (∀ u ∈ U, ∀ v ∈ U, P s u = true → P s v = true → u = v) ∧ U.any (P s) = Q s) → (U.map fun u => S.countP fun s => P s u).sum = S.countP Q
  | [], _ => by
    rw [sum_const U _ 0 (fun _ _ => by simp)]
    simp
  | s :: S, h => by
    have ih := sum_countP U hU P Q S (fun s hs => h s (by simp [hs]))
    obtain ⟨h1, h2⟩ := h s (by simp)
    have h3 := countP_one (P s) U hU h1
    rw [List.countP_cons, ← ih, ← h2, ← h3]
    clear ih h h1 h2 h3 hU
    induction U with
    | nil => simp
    | cons u U ih =>
      simp only [List.map_cons, List.sum_cons, List.countP_cons] at ih ⊢
      omega

/-- the number of a word's sources -/
def srcN (K n : Nat) (o : ByteArray) (w : List UInt8) : Nat := (wordsL K (w.length + (n - 1))).countP fun s => applyL K n o s == w

/-- all words between two given ones -/
theorem srcN_mid {K n : Nat} (hn : 1 ≤ n) (hK0 : 0 < K) (hK : K ≤ 3) (o : ByteArray) (hos : o.size = K ^ n) (hoa : areLet K o.data.toList = true) (x w : List UInt8) :
    ((wordsL K (n - 1)).map fun u => srcN K n o (x ++ u ++ w)).sum = srcN K n o x * srcN K n o w := by
  unfold srcN
  rw [← countP_two K (x.length + (n - 1)) (w.length + (n - 1)) hK0 (fun s => applyL K n o s == x) (fun s => applyL K n o s == w)]
  have hlen : ∀ u ∈ wordsL K (n - 1), (x ++ u ++ w).length + (n - 1) = x.length + (n - 1) + (w.length + (n - 1)) := by
    intro u hu
    have := (mem_wordsL hu hK0 hK).1
    simp only [List.length_append]
    omega
  have e1 : ((wordsL K (n - 1)).map fun u => (wordsL K ((x ++ u ++ w).length + (n - 1))).countP fun s => applyL K n o s == x ++ u ++ w) = (wordsL K (n - 1)).map fun u => (wordsL K (x.length + (n - 1) + (w.length + (n - 1)))).countP fun s => applyL K n o s == x ++ u ++ w :=
    List.map_congr_left fun u hu => by rw [hlen u hu]
  rw [e1]
  refine sum_countP _ (wordsL_nodup hK0 hK _) (fun s u => applyL K n o s == x ++ u ++ w) _ _ fun s hs => ⟨fun u hu v hv h1 h2 => ?_, ?_⟩
  · have e := (beq_iff_eq.1 h1).symm.trans (beq_iff_eq.1 h2)
    have e2 := List.append_inj_left' e rfl
    exact List.append_cancel_left e2
  · obtain ⟨hl, hs⟩ := mem_wordsL hs hK0 hK
    have hal := areLet_apply hos hoa hs
    have hL : (applyL K n o s).length = x.length + (n - 1) + w.length := by rw [applyL_length]; omega
    have ht := applyL_take (K := K) hn o s x.length (by omega)
    have hd := applyL_drop (K := K) hn o s (x.length + (n - 1))
    rw [← ht, ← hd]
    generalize applyL K n o s = A at hL hal
    rw [Bool.eq_iff_iff, List.any_eq_true]
    simp only [beq_iff_eq, Bool.and_eq_true]
    constructor
    · rintro ⟨u, hu, rfl⟩
      have hul := (mem_wordsL hu hK0 hK).1
      simp [← hul]
    · rintro ⟨h1, h2⟩
      have hm : areLet K ((A.drop x.length).take (n - 1)) = true := by
        unfold areLet at *
        rw [List.all_eq_true] at *
        intro c hc
        exact hal c (List.mem_of_mem_drop (List.mem_of_mem_take hc))
      have hml : ((A.drop x.length).take (n - 1)).length = n - 1 := by simp; omega
      have hmem := mem_of_let hK0 hK _ hm
      rw [hml] at hmem
      refine ⟨_, hmem, ?_⟩
      rw [← h2, ← List.drop_drop]
      rw [List.append_assoc, List.take_append_drop]
      conv => lhs; rw [← List.take_append_drop x.length A, h1]

theorem sum_ge {α : Type} (l : List α) (f : α → Nat) (c q : Nat) (h : ∀ u ∈ l, c ≤ f u * q) : l.length * c ≤ (l.map f).sum * q := by
  induction l with
  | nil => simp
  | cons u l ih =>
    have h1 := ih (fun v hv => h v (by simp [hv]))
    have h2 := h u (by simp)
    simp only [List.length_cons, List.map_cons, List.sum_cons, Nat.add_mul, Nat.one_mul]
    omega
theorem each_eq {α : Type} (q : Nat) (f : α → Nat) : ∀ (l : List α), (∀ u ∈ l, q ≤ f u) → (l.map f).sum = l.length * q → ∀ u ∈ l, f u = q
  | [], _, _, u, hu => by simp at hu
  | v :: l, h, hs, u, hu => by
    have h1 := h v (by simp)
    have h2 : l.length * q ≤ (l.map f).sum := by
      have := sum_ge l f q 1 (fun u hu => by have := h u (by simp [hu]); omega)
      omega
    simp only [List.length_cons, List.map_cons, List.sum_cons, Nat.add_mul, Nat.one_mul] at hs
    rcases List.mem_cons.1 hu with rfl | hu
    · omega
    · exact each_eq q f l (fun u hu => h u (by simp [hu])) (by omega) u hu

/-- What is onto gives many sources. -/
theorem onto_pow {K n : Nat} (hn : 1 ≤ n) (hK0 : 0 < K) (hK : K ≤ 3) (o : ByteArray) (hos : o.size = K ^ n) (hoa : areLet K o.data.toList = true) (hall : ∀ w, areLet K w = true → 1 ≤ srcN K n o w) (w : List UInt8) (hw : areLet K w = true) :
    ∀ k x, areLet K x = true → (K ^ (n - 1)) ^ k ≤ srcN K n o x * srcN K n o w ^ k
  | 0, x, hx => by simpa using hall x hx
  | k + 1, x, hx => by
    have h := sum_ge (wordsL K (n - 1)) (fun u => srcN K n o (x ++ u ++ w)) ((K ^ (n - 1)) ^ k) (srcN K n o w ^ k) (fun u hu => by
      refine onto_pow hn hK0 hK o hos hoa hall w hw k (x ++ u ++ w) ?_
      rw [areLet_append, areLet_append, hx, hw, (mem_wordsL hu hK0 hK).2]
      rfl)
    rw [srcN_mid hn hK0 hK o hos hoa, wordsL_length] at h
    rw [Nat.pow_succ, Nat.pow_succ]
    calc (K ^ (n - 1)) ^ k * K ^ (n - 1) = K ^ (n - 1) * (K ^ (n - 1)) ^ k := Nat.mul_comm _ _
      _ ≤ srcN K n o x * srcN K n o w * srcN K n o w ^ k := h
      _ = srcN K n o x * (srcN K n o w ^ k * srcN K n o w) := by rw [Nat.mul_assoc, Nat.mul_comm (srcN K n o w)]
theorem onto_ge {K n : Nat} (hn : 1 ≤ n) (hK0 : 0 < K) (hK : K ≤ 3) (o : ByteArray) (hos : o.size = K ^ n) (hoa : areLet K o.data.toList = true) (hall : ∀ w, areLet K w = true → 1 ≤ srcN K n o w) (w : List UInt8) (hw : areLet K w = true) :
    K ^ (n - 1) ≤ srcN K n o w := by
  apply Classical.byContradiction
  intro hlt
  obtain ⟨b, hb⟩ : ∃ b, K ^ (n - 1) = b + 1 := ⟨K ^ (n - 1) - 1, by have := Nat.pow_pos (n := n - 1) hK0; omega⟩
  obtain ⟨k, hk⟩ := growth b b
  have h := onto_pow hn hK0 hK o hos hoa hall w hw k w hw
  rw [hb] at h hlt
  have ht : srcN K n o w ≤ b := by omega
  have h2 : srcN K n o w * srcN K n o w ^ k ≤ b * b ^ k := Nat.mul_le_mul ht (Nat.pow_le_pow_left ht k)
  omega
/-- all words of a length have all sources together -/
theorem srcN_total {K n : Nat} (hn : 1 ≤ n) (hK0 : 0 < K) (hK : K ≤ 3) (o : ByteArray) (hos : o.size = K ^ n) (hoa : areLet K o.data.toList = true) (m : Nat) : ((wordsL K m).map (srcN K n o)).sum = K ^ m * K ^ (n - 1) := by
  have e1 : (wordsL K m).map (srcN K n o) = (wordsL K m).map fun u => (wordsL K (m + (n - 1))).countP fun s => applyL K n o s == u :=
    List.map_congr_left fun u hu => by unfold srcN; rw [(mem_wordsL hu hK0 hK).1]
  rw [e1, sum_countP _ (wordsL_nodup hK0 hK m) (fun s u => applyL K n o s == u) (fun _ => true) (wordsL K (m + (n - 1)))]
  · rw [List.countP_true, wordsL_length, Nat.pow_add]
  · intro s hs
    obtain ⟨hl, hs⟩ := mem_wordsL hs hK0 hK
    refine ⟨fun u _ v _ h1 h2 => (beq_iff_eq.1 h1).symm.trans (beq_iff_eq.1 h2), ?_⟩
    rw [List.any_eq_true]
    have hm := mem_of_let hK0 hK _ (areLet_apply hos hoa hs)
    rw [applyL_length, show s.length + 1 - n = m by omega] at hm
    exact ⟨_, hm, by simp⟩
/-- A code that is onto gives every word the same number of sources. -/
theorem onto_eq {K n : Nat} (hn : 1 ≤ n) (hK0 : 0 < K) (hK : K ≤ 3) (o : ByteArray) (hos : o.size = K ^ n) (hoa : areLet K o.data.toList = true) (hall : ∀ w, areLet K w = true → 1 ≤ srcN K n o w) (w : List UInt8) (hw : areLet K w = true) :
    srcN K n o w = K ^ (n - 1) := by
  refine each_eq (K ^ (n - 1)) (srcN K n o) (wordsL K w.length) (fun u hu => onto_ge hn hK0 hK o hos hoa hall u (mem_wordsL hu hK0 hK).2) ?_ w (mem_of_let hK0 hK w hw)
  rw [srcN_total hn hK0 hK o hos hoa, wordsL_length]
end Go.Cm

/- Two words with equal ends and one image refute that a code is onto: the counting. No program in sight. -/
namespace Go.Cm

/-- the image of two words in a row -/
theorem applyL_cat {K n : Nat} (hn : 1 ≤ n) (o : ByteArray) (s t : List UInt8) (hs : n - 1 ≤ s.length) (ht : n - 1 ≤ t.length) :
    applyL K n o (s ++ t) = applyL K n o s ++ (applyL K n o (s.drop (s.length - (n - 1)) ++ t.take (n - 1)) ++ applyL K n o t) := by
  have h1 := applyL_take (K := K) hn o (s ++ t) (s.length - (n - 1)) (by simp; omega)
  rw [show s.length - (n - 1) + (n - 1) = s.length by omega, List.take_left] at h1
  have h2 := applyL_drop (K := K) hn o (s ++ t) (s.length - (n - 1))
  rw [List.drop_append_of_le_length (by omega)] at h2
  have hl : (s.drop (s.length - (n - 1))).length = n - 1 := by simp; omega
  have h3 := applyL_take (K := K) hn o (s.drop (s.length - (n - 1)) ++ t) (n - 1) (by rw [List.length_append, hl]; omega)
  have h4 := applyL_drop (K := K) hn o (s.drop (s.length - (n - 1)) ++ t) (n - 1)
  have e3 : (s.drop (s.length - (n - 1)) ++ t).take (n - 1 + (n - 1)) = s.drop (s.length - (n - 1)) ++ t.take (n - 1) := by
    generalize s.drop (s.length - (n - 1)) = d at hl ⊢
    rw [show n - 1 + (n - 1) = d.length + (n - 1) by omega, List.take_length_add_append]
  have e4 : (s.drop (s.length - (n - 1)) ++ t).drop (n - 1) = t := by rw [List.drop_append_of_le_length (by omega), List.drop_of_length_le (by omega)]; rfl
  rw [e3] at h3
  rw [e4] at h4
  rw [← List.take_append_drop (s.length - (n - 1)) (applyL K n o (s ++ t)), h1, h2, ← h3, ← h4, List.take_append_drop]

/-- rows of blocks, each one of two -/
def twoRows (a b : List UInt8) : Nat → List (List UInt8)
  | 0 => [a]
  | k + 1 => (twoRows a b k).flatMap fun s => [s ++ a, s ++ b]
theorem twoRows_length (a b : List UInt8) : ∀ k, (twoRows a b k).length = 2 ^ k
  | 0 => rfl
  | k + 1 => by
    have h := twoRows_length a b k
    rw [twoRows, List.length_flatMap, sum_const (twoRows a b k) (fun s => [s ++ a, s ++ b].length) 2 (fun _ _ => rfl), h, Nat.pow_succ]
theorem twoRows_nodup {a b : List UInt8} (hl : a.length = b.length) (hne : a ≠ b) : ∀ k, (twoRows a b k).Nodup
  | 0 => by simp [twoRows]
  | k + 1 => by
    have ih := twoRows_nodup hl hne k
    rw [twoRows, List.Nodup, List.pairwise_flatMap]
    refine ⟨fun s _ => by simp [hne], ih.imp fun {s t} hst x hx y hy e => ?_⟩
    simp at hx hy
    rcases hx with rfl | rfl <;> rcases hy with rfl | rfl
    · exact hst (List.append_inj_left' e rfl)
    · exact hst (List.append_inj_left' e hl)
    · exact hst (List.append_inj_left' e hl.symm)
    · exact hst (List.append_inj_left' e rfl)
/-- all of them have one image, the same end, and letters -/
theorem twoRows_image {K n : Nat} (hn : 1 ≤ n) (o : ByteArray) {a b : List UInt8} (hl : a.length = b.length) (hr : n - 1 ≤ a.length) (hp : a.take (n - 1) = b.take (n - 1)) (hq : a.drop (a.length - (n - 1)) = b.drop (a.length - (n - 1))) (hi : applyL K n o a = applyL K n o b)
    (ha : areLet K a = true) (hb : areLet K b = true) : ∀ k, ∃ W len : _, ∀ s ∈ twoRows a b k, applyL K n o s = W ∧ s.length = len ∧ n - 1 ≤ len ∧ s.drop (s.length - (n - 1)) = a.drop (a.length - (n - 1)) ∧ areLet K s = true
  | 0 => ⟨_, _, fun s hs => by
      have : s = a := by simpa [twoRows] using hs
      subst this
      exact ⟨rfl, rfl, hr, rfl, ha⟩⟩
  | k + 1 => by
    obtain ⟨W, len, h⟩ := twoRows_image hn o hl hr hp hq hi ha hb k
    refine ⟨W ++ (applyL K n o (a.drop (a.length - (n - 1)) ++ a.take (n - 1)) ++ applyL K n o a), len + a.length, fun s hs => ?_⟩
    rw [twoRows] at hs
    obtain ⟨u, hu, hs⟩ := List.mem_flatMap.1 hs
    obtain ⟨h1, h2, h3, h4, h5⟩ := h u hu
    simp at hs
    have hdrop : ∀ c : List UInt8, c.length = a.length → (u ++ c).drop ((u ++ c).length - (n - 1)) = c.drop (c.length - (n - 1)) := by
      intro c hc
      rw [List.length_append, show u.length + c.length - (n - 1) = u.length + (c.length - (n - 1)) by omega, List.drop_length_add_append]
    rcases hs with rfl | rfl
    · refine ⟨by rw [applyL_cat hn o u a (by omega) hr, h1, h4], by simp [h2], by omega, hdrop a rfl, by rw [areLet_append, h5, ha]; rfl⟩
    · refine ⟨by rw [applyL_cat hn o u b (by omega) (by omega), h1, h4, ← hp, ← hi], by simp [h2, hl], by omega, ?_, by rw [areLet_append, h5, hb]; rfl⟩
      rw [hdrop b hl.symm, ← hl, ← hq]

/-- Two different words with equal ends and one image: the code is not onto. -/
theorem twins_not_onto {K n : Nat} (hn : 1 ≤ n) (hK0 : 0 < K) (hK : K ≤ 3) (o : ByteArray) (hos : o.size = K ^ n) (hoa : areLet K o.data.toList = true) {a b : List UInt8} (hne : a ≠ b) (hl : a.length = b.length) (hr : n - 1 ≤ a.length) (hp : a.take (n - 1) = b.take (n - 1))
    (hq : a.drop (a.length - (n - 1)) = b.drop (a.length - (n - 1))) (hi : applyL K n o a = applyL K n o b) (ha : areLet K a = true) (hb : areLet K b = true) : ¬ ∀ w, areLet K w = true → 1 ≤ srcN K n o w := by
  intro hall
  obtain ⟨k, hk⟩ := growth 1 (K ^ (n - 1))
  obtain ⟨W, len, h⟩ := twoRows_image hn o hl hr hp hq hi ha hb k
  have hsub : (twoRows a b k).length ≤ ((wordsL K (W.length + (n - 1))).filter fun s => applyL K n o s == W).length := by
    refine inj_le id _ _ (twoRows_nodup hl hne k) (fun s hs => ?_) (fun x _ y _ e => e)
    obtain ⟨h1, h2, h3, _, h5⟩ := h s hs
    have hm := mem_of_let hK0 hK s h5
    have hw : W.length + (n - 1) = s.length := by rw [← h1, applyL_length]; omega
    rw [List.mem_filter, hw]
    exact ⟨hm, by simpa using h1⟩
  rw [← List.countP_eq_length_filter, twoRows_length] at hsub
  have hW : areLet K W = true := by
    have h0 : 0 < (twoRows a b k).length := by rw [twoRows_length]; exact Nat.pow_pos (by omega)
    obtain ⟨h1, _, _, _, h5⟩ := h _ (List.getElem_mem h0)
    rw [← h1]
    exact areLet_apply hos hoa h5
  have he := onto_eq hn hK0 hK o hos hoa hall W hW
  unfold srcN at he
  rw [he] at hsub
  simp at hk
  omega
end Go.Cm

/- A word without sources gives two different words with equal ends and one image: the counting. No program in sight. -/
namespace Go.Cm

/-- rows of k words of w's length, none of them w -/
def avoidL (K : Nat) (w : List UInt8) : Nat → List (List UInt8)
  | 0 => [[]]
  | k + 1 => (avoidL K w k).flatMap fun s => ((wordsL K w.length).erase w).map fun t => s ++ t
theorem avoidL_length {K : Nat} (hK0 : 0 < K) (hK : K ≤ 3) {w : List UInt8} (hw : areLet K w = true) : ∀ k, (avoidL K w k).length = (K ^ w.length - 1) ^ k
  | 0 => rfl
  | k + 1 => by
    have hm := mem_of_let hK0 hK w hw
    rw [avoidL, List.length_flatMap, sum_const (avoidL K w k) (fun s => (((wordsL K w.length).erase w).map fun t => s ++ t).length) (K ^ w.length - 1) (fun s _ => by rw [List.length_map, List.length_erase_of_mem hm, wordsL_length]), avoidL_length hK0 hK hw k, Nat.pow_succ]
theorem avoids {K n : Nat} (hn : 1 ≤ n) (hK0 : 0 < K) (hK : K ≤ 3) (o : ByteArray) (hos : o.size = K ^ n) (hoa : areLet K o.data.toList = true) {w : List UInt8} (h0 : srcN K n o w = 0) : ∀ k s, areLet K s = true → s.length = w.length * k + (n - 1) → applyL K n o s ∈ avoidL K w k
  | 0, s, _, hl => by
    have : applyL K n o s = [] := List.eq_nil_of_length_eq_zero (by rw [applyL_length]; omega)
    rw [this]
    simp [avoidL]
  | k + 1, s, hs, hl => by
    rw [Nat.mul_succ] at hl
    have hsub : ∀ (u : List UInt8), (∀ c ∈ u, c ∈ s) → areLet K u = true := by
      intro u hu
      unfold areLet at *
      rw [List.all_eq_true] at *
      exact fun c hc => hs c (hu c hc)
    have ht := applyL_take (K := K) hn o s (w.length * k) (by omega)
    have hd := applyL_drop (K := K) hn o s (w.length * k)
    have ih := avoids hn hK0 hK o hos hoa h0 k (s.take (w.length * k + (n - 1))) (hsub _ fun c hc => List.mem_of_mem_take hc) (by simp; omega)
    have hdl : areLet K (s.drop (w.length * k)) = true := hsub _ fun c hc => List.mem_of_mem_drop hc
    have hdlen : (s.drop (w.length * k)).length = w.length + (n - 1) := by simp; omega
    have hm := mem_of_let hK0 hK _ (areLet_apply hos hoa hdl)
    rw [applyL_length, hdlen, show w.length + (n - 1) + 1 - n = w.length by omega] at hm
    have hne : applyL K n o (s.drop (w.length * k)) ≠ w := by
      intro e
      unfold srcN at h0
      rw [List.countP_eq_zero] at h0
      have h1 := mem_of_let hK0 hK _ hdl
      rw [hdlen] at h1
      exact h0 _ h1 (by simpa using e)
    rw [avoidL, List.mem_flatMap]
    refine ⟨_, ih, List.mem_map.2 ⟨_, (List.mem_erase_of_ne hne).2 hm, ?_⟩⟩
    rw [← ht, ← hd, List.take_append_drop]

/-- A word without sources: there are two different words with equal ends and one image. -/
theorem orphan_twins {K n : Nat} (hn : 1 ≤ n) (hK0 : 0 < K) (hK : K ≤ 3) (o : ByteArray) (hos : o.size = K ^ n) (hoa : areLet K o.data.toList = true) {w : List UInt8} (hw : areLet K w = true) (h0 : srcN K n o w = 0) :
    ∃ a b : List UInt8, a ≠ b ∧ a.length = b.length ∧ n - 1 ≤ a.length ∧ a.take (n - 1) = b.take (n - 1) ∧ a.drop (a.length - (n - 1)) = b.drop (a.length - (n - 1)) ∧ applyL K n o a = applyL K n o b ∧ areLet K a = true ∧ areLet K b = true := by
  obtain ⟨k, hk⟩ := growth (K ^ w.length - 1) (K ^ (n - 1) * K ^ (n - 1))
  have hp : 0 < K ^ w.length := Nat.pow_pos hK0
  rw [show K ^ w.length - 1 + 1 = K ^ w.length by omega, ← Nat.pow_mul] at hk
  obtain ⟨H, hH⟩ : ∃ H : List (List UInt8 × List UInt8 × List UInt8), H = (avoidL K w k).flatMap fun A => (wordsL K (n - 1)).flatMap fun p => (wordsL K (n - 1)).map fun q => (A, p, q) := ⟨_, rfl⟩
  have hHl : H.length = (K ^ w.length - 1) ^ k * (K ^ (n - 1) * K ^ (n - 1)) := by
    rw [hH, List.length_flatMap, sum_const (avoidL K w k) _ (K ^ (n - 1) * K ^ (n - 1)) (fun A _ => ?_), avoidL_length hK0 hK hw]
    rw [List.length_flatMap, sum_const (wordsL K (n - 1)) _ (K ^ (n - 1)) (fun p _ => by rw [List.length_map, wordsL_length]), wordsL_length]
  obtain ⟨x, hx, y, hy, hne, he⟩ := pigeons (fun s => (applyL K n o s, s.take (n - 1), s.drop (s.length - (n - 1)))) (wordsL K (w.length * k + (n - 1))) H (wordsL_nodup hK0 hK _) (fun s hs => by
    obtain ⟨hl, hs⟩ := mem_wordsL hs hK0 hK
    have hsub : ∀ (u : List UInt8), (∀ c ∈ u, c ∈ s) → areLet K u = true := by
      intro u hu
      unfold areLet at *
      rw [List.all_eq_true] at *
      exact fun c hc => hs c (hu c hc)
    have h1 := mem_of_let hK0 hK (s.take (n - 1)) (hsub _ fun c hc => List.mem_of_mem_take hc)
    have h2 := mem_of_let hK0 hK (s.drop (s.length - (n - 1))) (hsub _ fun c hc => List.mem_of_mem_drop hc)
    rw [show (s.take (n - 1)).length = n - 1 by simp; omega] at h1
    rw [show (s.drop (s.length - (n - 1))).length = n - 1 by simp; omega] at h2
    rw [hH]
    exact List.mem_flatMap.2 ⟨_, avoids hn hK0 hK o hos hoa h0 k s hs hl, List.mem_flatMap.2 ⟨_, h1, List.mem_map.2 ⟨_, h2, rfl⟩⟩⟩) (by
    rw [hHl, wordsL_length, Nat.pow_add, Nat.mul_comm]
    have := Nat.pow_pos (n := n - 1) hK0
    calc K ^ (n - 1) * K ^ (n - 1) * (K ^ w.length - 1) ^ k < K ^ (w.length * k) := hk
      _ ≤ K ^ (w.length * k) * K ^ (n - 1) := Nat.le_mul_of_pos_right _ this)
  obtain ⟨hxl, hxa⟩ := mem_wordsL hx hK0 hK
  obtain ⟨hyl, hya⟩ := mem_wordsL hy hK0 hK
  simp only [Prod.mk.injEq] at he
  refine ⟨x, y, hne, by omega, by omega, he.2.1, ?_, he.1, hxa, hya⟩
  rw [he.2.2]
  congr 1
  omega
end Go.Cm

/- The counting of sources by ends is the number of sources. No program in sight. -/
namespace Go.Cm

/-- what one place adds to one end -/
def hitV (K n : Nat) (o : ByteArray) (c : UInt8) (now : List Nat) (v x j : Nat) : Nat := if o.data.toList.getD (v * K + x) 0 = c ∧ (v * K + x) % n = j then now.getD v 0 else 0
theorem hitL_at {K n : Nat} (hn : 0 < n) (o : ByteArray) (c : UInt8) (now : List Nat) (v : Nat) (nx : List Nat) (x j : Nat) (hl : nx.length = n) (_ : j < n) : (hitL K n o c now v nx x).getD j 0 = nx.getD j 0 + hitV K n o c now v x j := by
  unfold hitL hitV
  have hi : (v * K + x) % n < n := Nat.mod_lt _ hn
  by_cases hc : o.data.toList.getD (v * K + x) 0 = c
  · by_cases hj : (v * K + x) % n = j
    · rw [if_pos hc, if_pos ⟨hc, hj⟩, hj, List.getD_eq_getElem?_getD, List.getElem?_set_self (by omega)]
      rfl
    · rw [if_pos hc, if_neg (fun h => hj h.2), List.getD_eq_getElem?_getD, List.getElem?_set_ne hj, ← List.getD_eq_getElem?_getD]
      rfl
  · rw [if_neg hc, if_neg (fun h => hc h.1)]
    rfl
theorem rowH_at {K n : Nat} (hn : 0 < n) (o : ByteArray) (c : UInt8) (now : List Nat) (v : Nat) (nx : List Nat) (j : Nat) (hl : nx.length = n) (hj : j < n) : ∀ a, (rowH K n o c now v nx a).getD j 0 = nx.getD j 0 + ((List.range a).map fun x => hitV K n o c now v x j).sum
  | 0 => by simp [rowH_zero]
  | a + 1 => by
    rw [rowH_succ, hitL_at hn o c now v _ a j (by rw [rowH_length, hl]) hj, rowH_at hn o c now v nx j hl hj a, List.range_succ, List.map_append, List.sum_append]
    simp
    omega
theorem allH_at {K n : Nat} (hn : 0 < n) (o : ByteArray) (c : UInt8) (now : List Nat) (j : Nat) (hj : j < n) : ∀ b, (allH K n o c now b).getD j 0 = ((List.range b).map fun v => ((List.range K).map fun x => hitV K n o c now v x j).sum).sum
  | 0 => by simp [allH_zero, List.getD_eq_getElem?_getD, hj]
  | b + 1 => by
    rw [allH_succ, rowH_at hn o c now b _ j (allH_length K n o c now b) hj, allH_at hn o c now j hj b, List.range_succ, List.map_append, List.sum_append]
    simp
theorem stepC_at {K n : Nat} (hn : 0 < n) (o : ByteArray) (c : UInt8) (now : List Nat) (j : Nat) (hj : j < n) : (stepC K n o now c).getD j 0 = ((List.range n).map fun v => ((List.range K).map fun x => hitV K n o c now v x j).sum).sum :=
  allH_at hn o c now j hj n

theorem sum_single (f : Nat → Nat) (a : Nat) : ∀ N, a < N → (∀ v, v < N → v ≠ a → f v = 0) → ((List.range N).map f).sum = f a
  | 0, h, _ => by omega
  | N + 1, h, h0 => by
    rw [List.range_succ, List.map_append, List.sum_append]
    by_cases e : a = N
    · subst e
      rw [sum_const (List.range a) f 0 (fun v hv => h0 v (by have := List.mem_range.1 hv; omega) (by have := List.mem_range.1 hv; omega))]
      simp
    · rw [sum_single f a N (by omega) (fun v h => h0 v (by omega))]
      simp [h0 N (by omega) (fun h => e h.symm)]
theorem countP_sum {α : Type} (p : α → Bool) : ∀ l : List α, l.countP p = (l.map fun x => if p x = true then 1 else 0).sum
  | [] => rfl
  | x :: l => by
    rw [List.countP_cons, countP_sum p l, List.map_cons, List.sum_cons]
    omega
theorem group_sum {α : Type} (N K : Nat) (p : α → Bool) (h : α → Nat) (q : Nat → Nat → Bool) : ∀ S : List α, (∀ s ∈ S, h s < N) →
    (S.map fun s => (List.range K).countP fun x => p s && q (h s) x).sum = ((List.range N).map fun v => ((List.range K).map fun x => if q v x = true then S.countP (fun s => p s && h s == v) else 0).sum).sum
  | [], _ => by
    rw [sum_const (List.range N) _ 0 (fun v _ => by rw [sum_const (List.range K) _ 0 (fun x _ => by simp)]; simp)]
    simp
  | s :: S, hs => by
    have ih := group_sum N K p h q S (fun s h => hs s (by simp [h]))
    have h1 := hs s (by simp)
    have e1 : ∀ v, ((List.range K).map fun x => if q v x = true then (s :: S).countP (fun s => p s && h s == v) else 0).sum = ((List.range K).map fun x => if q v x = true then S.countP (fun s => p s && h s == v) else 0).sum + ((List.range K).map fun x => if q v x = true ∧ (p s && h s == v) = true then 1 else 0).sum := by
      intro v
      rw [← sum_add]
      refine sum_ext _ _ _ fun x _ => ?_
      rw [List.countP_cons]
      by_cases hq : q v x = true <;> by_cases hp : (p s && h s == v) = true <;> simp [hq, hp]
    rw [List.map_cons, List.sum_cons, ih, sum_ext _ _ _ (fun v _ => e1 v), sum_add,
      sum_single (fun v => ((List.range K).map fun x => if q v x = true ∧ (p s && h s == v) = true then 1 else 0).sum) (h s) N h1 (fun v _ hv => by
        rw [sum_const (List.range K) _ 0 (fun x _ => by simp; intro _ _ e; exact absurd e.symm hv)]
        simp), countP_sum, Nat.add_comm]
    congr 1
    refine sum_ext _ _ _ fun x _ => ?_
    by_cases hq : q (h s) x = true <;> by_cases hp : p s = true <;> simp [hq, hp]

theorem applyL_one {K n : Nat} (o : ByteArray) (u : List UInt8) (h : u.length = n) : applyL K n o u = [givesL K o u] := by
  unfold applyL
  rw [show u.length + 1 - n = 1 by omega]
  simp [partL, ← h]
theorem applyL_snoc {K m : Nat} (o : ByteArray) (s : List UInt8) (c : UInt8) (l : Nat) (h : s.length = l + m) : applyL K (m + 1) o (s ++ [c]) = applyL K (m + 1) o s ++ [givesL K o (s.drop l ++ [c])] := by
  have h1 := applyL_take (K := K) (n := m + 1) (by omega) o (s ++ [c]) l (by simp; omega)
  have h2 := applyL_drop (K := K) (n := m + 1) (by omega) o (s ++ [c]) l
  rw [show l + (m + 1 - 1) = s.length by omega, List.take_left] at h1
  have h3 := applyL_one (K := K) (n := m + 1) o (s.drop l ++ [c]) (by simp; omega)
  rw [List.drop_append_of_le_length (by omega), h3] at h2
  rw [← List.take_append_drop l (applyL K (m + 1) o (s ++ [c])), h1, h2]
theorem idx_tail {K m : Nat} (t : List UInt8) (h : t.length = m + 1) (ht : areLet K t = true) : idxL K (t.drop 1) = idxL K t % K ^ m := by
  match t, h with
  | c :: t, h =>
    have hl : t.length = m := by simpa using h
    have h1 := idxL_lt K t (by simp [areLet] at ht ⊢; exact ht.2)
    rw [hl] at h1
    rw [idxL_cons, hl, Nat.add_comm, Nat.add_mul_mod_self_right, Nat.mod_eq_of_lt h1]
    rfl

/-- the number of a word's sources that end in a given way -/
def endN (K m : Nat) (o : ByteArray) (u : List UInt8) (v : Nat) : Nat := (wordsL K (u.length + m)).countP fun s => applyL K (m + 1) o s == u && idxL K (s.drop u.length) == v
theorem endN_zero {K m : Nat} (hK0 : 0 < K) (hK : K ≤ 3) (o : ByteArray) (j : Nat) (hj : j < K ^ m) : endN K m o [] j = 1 := by
  unfold endN
  rw [show ([] : List UInt8).length + m = m by simp, wordsL, List.countP_map, countP_sum, sum_single _ j (K ^ m) hj]
  · have h : applyL K (m + 1) o (wordL K m j) = [] := List.eq_nil_of_length_eq_zero (by rw [applyL_length, wordL_length]; omega)
    simp [h, idxL_wordL K hK0 hK m j hj]
  · intro v hv hne
    have h : idxL K (wordL K m v) ≠ j := by rw [idxL_wordL K hK0 hK m v hv]; exact hne
    simp [h]
theorem endN_snoc {K m : Nat} (hK0 : 0 < K) (hK : K ≤ 3) (o : ByteArray) (u : List UInt8) (c : UInt8) (j : Nat) :
    endN K m o (u ++ [c]) j = ((List.range (K ^ m)).map fun v => ((List.range K).map fun x => if o.data.toList.getD (v * K + x) 0 = c ∧ (v * K + x) % K ^ m = j then endN K m o u v else 0).sum).sum := by
  unfold endN
  rw [List.length_append, List.length_singleton, show u.length + 1 + m = u.length + m + 1 by omega, wordsL_succ K _ hK0, List.countP_flatMap]
  have hg := group_sum (K ^ m) K (fun s => applyL K (m + 1) o s == u) (fun s => idxL K (s.drop u.length)) (fun v x => decide (o.data.toList.getD (v * K + x) 0 = c ∧ (v * K + x) % K ^ m = j)) (wordsL K (u.length + m)) (fun s hs => by
    obtain ⟨hl, ha⟩ := mem_wordsL hs hK0 hK
    have hd : areLet K (s.drop u.length) = true := by
      unfold areLet at *
      rw [List.all_eq_true] at *
      exact fun c hc => ha c (List.mem_of_mem_drop hc)
    have := idxL_lt K _ hd
    rwa [show (s.drop u.length).length = m by simp; omega] at this)
  simp only [decide_eq_true_eq] at hg
  rw [← hg]
  congr 1
  refine List.map_congr_left fun s hs => ?_
  obtain ⟨hl, ha⟩ := mem_wordsL hs hK0 hK
  simp only [Function.comp, List.countP_map]
  refine List.countP_congr fun x hx => ?_
  have hx' := List.mem_range.1 hx
  have hd : areLet K (s.drop u.length) = true := by
    unfold areLet at *
    rw [List.all_eq_true] at *
    exact fun c hc => ha c (List.mem_of_mem_drop hc)
  have hidx : idxL K (s.drop u.length ++ [letN x]) = idxL K (s.drop u.length) * K + x := by rw [idxL_snoc, letN_num (by omega)]
  have hlx : areLet K [letN x] = true := by
    have := areLet_wordL K hK0 hK 1 x
    simpa [wordL, Nat.mod_eq_of_lt hx'] using this
  have ht := idx_tail (K := K) (m := m) (s.drop u.length ++ [letN x]) (by simp; omega) (by rw [areLet_append, hd]; simpa using hlx)
  have e1 : (s ++ [letN x]).drop (u.length + 1) = (s.drop u.length ++ [letN x]).drop 1 := by rw [← List.drop_append_of_le_length (by omega), List.drop_drop]
  simp only [Function.comp, applyL_snoc o s (letN x) u.length hl, e1, ht, hidx, givesL]
  rw [Bool.and_eq_true, Bool.and_eq_true, beq_iff_eq, beq_iff_eq, beq_iff_eq, decide_eq_true_eq]
  constructor
  · rintro ⟨h1, h2⟩
    obtain ⟨h3, h4⟩ := List.append_inj' h1 rfl
    exact ⟨h3, (List.cons.inj h4).1, h2⟩
  · rintro ⟨h1, h2, h3⟩
    exact ⟨by rw [h1, h2], h3⟩

/-- the counts by ends are what the program counts -/
theorem countC_at {K m : Nat} (hK0 : 0 < K) (hK : K ≤ 3) (o : ByteArray) (u : List UInt8) : ∀ j, j < K ^ m → (countC K (K ^ m) o u).getD j 0 = endN K m o u j := by
  refine snoc_induction (p := fun u => ∀ j, j < K ^ m → (countC K (K ^ m) o u).getD j 0 = endN K m o u j) ?_ ?_ u
  · intro j hj
    rw [endN_zero hK0 hK o j hj]
    simp [countC, List.getD_eq_getElem?_getD, hj]
  · intro u c ih j hj
    rw [countC_snoc, stepC_at (by omega) o c _ j hj, endN_snoc hK0 hK o u c j]
    refine sum_ext _ _ _ fun v hv => sum_ext _ _ _ fun x _ => ?_
    unfold hitV
    rw [ih v (List.mem_range.1 hv)]
/-- .. and together the number of sources -/
theorem countC_sum {K m : Nat} (hK0 : 0 < K) (hK : K ≤ 3) (o : ByteArray) (u : List UInt8) : (countC K (K ^ m) o u).sum = srcN K (m + 1) o u := by
  rw [← sum_getD, countC_length, sum_ext _ _ _ (fun j hj => countC_at hK0 hK o u j (List.mem_range.1 hj))]
  unfold endN srcN
  refine sum_countP (List.range (K ^ m)) List.nodup_range (fun s j => applyL K (m + 1) o s == u && idxL K (s.drop u.length) == j) (fun s => applyL K (m + 1) o s == u) _ fun s hs => ⟨fun a _ b _ h1 h2 => ?_, ?_⟩
  · simp only [Bool.and_eq_true, beq_iff_eq] at h1 h2
    exact h1.2.symm.trans h2.2
  · obtain ⟨hl, ha⟩ := mem_wordsL hs hK0 hK
    have hd : areLet K (s.drop u.length) = true := by
      unfold areLet at *
      rw [List.all_eq_true] at *
      exact fun c hc => ha c (List.mem_of_mem_drop hc)
    have hlt := idxL_lt K _ hd
    rw [show (s.drop u.length).length = m by simp; omega] at hlt
    rw [Bool.eq_iff_iff, List.any_eq_true]
    constructor
    · rintro ⟨j, _, h⟩
      simp only [Bool.and_eq_true] at h
      exact h.1
    · intro h
      exact ⟨_, List.mem_range.2 hlt, by simp [h]⟩
end Go.Cm

/- Codes one behind the other, on words and on rings. No program in sight. -/
namespace Go.Cm
open Go.Lib (repeatL repeatL_length)

theorem wordL_idxL' {K : Nat} (hK : K ≤ 3) (t : List UInt8) : areLet K t = true → wordL K t.length (idxL K t) = t := by
  refine snoc_induction (p := fun t => areLet K t = true → wordL K t.length (idxL K t) = t) ?_ ?_ t
  · intro _; rfl
  · intro u c ih h
    rw [areLet_append, Bool.and_eq_true] at h
    have h1 : 97 ≤ (c.toNat : Int) ∧ (c.toNat : Int) - 97 < K := by simpa [areLet, isLet] using h.2
    obtain ⟨b, hb⟩ : ∃ b, b = c.toNat - 97 := ⟨_, rfl⟩
    have hbK : b < K := by omega
    have hc : c = letN b := by
      apply UInt8.toNat_inj.1
      show c.toNat = (97 + b) % 256
      omega
    subst hc
    have hK0 : 0 < K := by omega
    rw [List.length_append, List.length_singleton, wordL, idxL_snoc, letN_num (by omega)]
    have h1 : (idxL K u * K + b) / K = idxL K u := by
      rw [Nat.add_comm, Nat.add_mul_div_right _ _ hK0, Nat.div_eq_of_lt hbK, Nat.zero_add]
    have h2 : (idxL K u * K + b) % K = b := by
      rw [Nat.add_comm, Nat.add_mul_mod_self_right, Nat.mod_eq_of_lt hbK]
    rw [h1, h2, ih h.1]

/-- the table of a code that is composed -/
theorem givesL_table {K q : Nat} (hK : K ≤ 3) (f : List UInt8 → UInt8) {t : List UInt8} (ht : areLet K t = true) (hl : t.length = q) : givesL K (mkS ((wordsL K q).map f)) t = f t := by
  unfold givesL
  have hi := idxL_lt K t ht
  rw [hl] at hi
  rw [mkS_data, List.getD_eq_getElem?_getD, List.getElem?_map]
  unfold wordsL
  rw [List.getElem?_map, List.getElem?_range hi]
  have h := wordL_idxL' hK t ht
  rw [hl] at h
  show f (wordL K q (idxL K t)) = f t
  rw [h]
theorem apply_get {K n i : Nat} {o : ByteArray} {u : List UInt8} (h : i + n ≤ u.length) : (applyL K n o u).getD i 0 = givesL K o (partL n i u) := by
  unfold applyL
  rw [List.getD_eq_getElem?_getD, List.getElem?_map, List.getElem?_range (by omega)]
  rfl
/-- a part of the image is the image of a part -/
theorem part_apply {K n m i : Nat} (hn : 1 ≤ n) (hm : 1 ≤ m) (o : ByteArray) (u : List UInt8) (h : i + (n + m - 1) ≤ u.length) : partL n i (applyL K m o u) = applyL K m o (partL (n + m - 1) i u) := by
  refine List.ext_getElem ?_ fun j h1 h2 => ?_
  · rw [partL_length (by rw [applyL_length]; omega), applyL_length, partL_length (by omega)]
    omega
  · have hj : j < n := by rw [partL_length (by rw [applyL_length]; omega)] at h1; exact h1
    simp only [partL, applyL, List.getElem_take, List.getElem_drop, List.getElem_map, List.getElem_range]
    congr 1
    rw [List.drop_take, List.take_take, List.drop_drop]
    congr 1
    omega
/-- Codes are applied one after the other as composed. -/
theorem compose_apply {K n m : Nat} (hK : K ≤ 3) (hn : 1 ≤ n) (hm : 1 ≤ m) (o o' : ByteArray) {u : List UInt8} (hu : areLet K u = true) : applyL K (n + m - 1) (mkS ((wordsL K (n + m - 1)).map (composeL K m o o'))) u = applyL K n o (applyL K m o' u) := by
  refine List.ext_getElem ?_ fun i h1 h2 => ?_
  · rw [applyL_length, applyL_length, applyL_length]
    omega
  · rw [applyL_length] at h1
    have e : ∀ (n : Nat) (o : ByteArray) (u : List UInt8) (h : i < (applyL K n o u).length), (applyL K n o u)[i] = givesL K o (partL n i u) := by
      intro n o u h
      simp only [applyL, List.getElem_map, List.getElem_range]
    rw [e, e, givesL_table hK _ (areLet_part _ _ hu) (partL_length (by omega)), part_apply hn hm o' u (by omega)]
    rfl

/-- a ring's letter -/
theorem repeat_getD (u : List UInt8) : ∀ (a j : Nat), j < a * u.length → (repeatL u a).getD j 0 = u.getD (j % u.length) 0
  | 0, j, h => by omega
  | a + 1, j, h => by
    rw [repeatL]
    by_cases hj : j < u.length
    · rw [List.getD_eq_getElem?_getD, List.getElem?_append_left hj, Nat.mod_eq_of_lt hj, ← List.getD_eq_getElem?_getD]
    · rw [List.getD_eq_getElem?_getD, List.getElem?_append_right (by omega), ← List.getD_eq_getElem?_getD, repeat_getD u a (j - u.length) (by rw [Nat.succ_mul] at h; omega), ← Nat.mod_eq_sub_mod (show u.length ≤ j by omega)]
theorem ringW_getD {n j : Nat} {u : List UInt8} (hn : 1 ≤ n) (hu : 1 ≤ u.length) (hj : j < u.length + n - 1) : (ringW n u).getD j 0 = u.getD (j % u.length) 0 := by
  have h := ring_fits hn hu
  unfold ringW
  rw [List.getD_eq_getElem?_getD, List.getElem?_take_of_lt hj, ← List.getD_eq_getElem?_getD, repeat_getD u n j (by omega)]
/-- the letters from a place on, round the ring -/
def cyc (n i : Nat) (u : List UInt8) : List UInt8 := (List.range n).map fun t => u.getD ((i + t) % u.length) 0
theorem cyc_length (n i : Nat) (u : List UInt8) : (cyc n i u).length = n := by simp [cyc]
theorem get_getD {l : List UInt8} {j : Nat} (h : j < l.length) : l[j] = l.getD j 0 := by rw [List.getD_eq_getElem?_getD, List.getElem?_eq_getElem h]; rfl
theorem part_get {W i j : Nat} {u : List UInt8} (hj : j < W) : (partL W i u).getD j 0 = u.getD (i + j) 0 := by
  unfold partL
  rw [List.getD_eq_getElem?_getD, List.getElem?_take_of_lt hj, List.getElem?_drop, ← List.getD_eq_getElem?_getD]
theorem cyc_get {n i j : Nat} {u : List UInt8} (hj : j < n) : (cyc n i u).getD j 0 = u.getD ((i + j) % u.length) 0 := by
  unfold cyc
  rw [List.getD_eq_getElem?_getD, List.getElem?_map, List.getElem?_range hj]
  rfl
theorem part_ring {n i : Nat} {u : List UInt8} (hn : 1 ≤ n) (hi : i < u.length) : partL n i (ringW n u) = cyc n i u := by
  have hl := ringW_length (n := n) (u := u) hn (by omega)
  have hp : (partL n i (ringW n u)).length = n := partL_length (by omega)
  refine List.ext_getElem (by rw [hp, cyc_length]) fun j h1 h2 => ?_
  have hj : j < n := by rw [cyc_length] at h2; exact h2
  rw [get_getD h1, get_getD h2, part_get hj, cyc_get hj, ringW_getD hn (by omega) (by omega)]
theorem part_cyc {q m i t : Nat} {u : List UInt8} (h : t + m ≤ q) : partL m t (cyc q i u) = cyc m (i + t) u := by
  have hp : (partL m t (cyc q i u)).length = m := partL_length (by rw [cyc_length]; exact h)
  refine List.ext_getElem (by rw [hp, cyc_length]) fun j h1 h2 => ?_
  have hj : j < m := by rw [cyc_length] at h2; exact h2
  rw [get_getD h1, get_getD h2, part_get hj, cyc_get hj, cyc_get (by omega), Nat.add_assoc]
theorem cyc_mod (n i : Nat) (u : List UInt8) : cyc n (i % u.length) u = cyc n i u := by
  unfold cyc
  refine List.map_congr_left fun t _ => ?_
  rw [Nat.mod_add_mod]
theorem ringL_get {K n i : Nat} {o : ByteArray} {u : List UInt8} (hn : 1 ≤ n) (hi : i < u.length) : (ringL K n o u).getD i 0 = givesL K o (cyc n i u) := by
  unfold ringL
  rw [apply_get (by rw [ringW_length hn (by omega)]; omega), part_ring hn hi]
theorem areLet_cyc {k : Int} {n i : Nat} {u : List UInt8} (hu : areLet k u = true) (h1 : 1 ≤ u.length) : areLet k (cyc n i u) = true := by
  unfold areLet
  rw [List.all_eq_true]
  intro c hc
  simp only [cyc, List.mem_map, List.mem_range] at hc
  obtain ⟨t, -, rfl⟩ := hc
  exact isLet_getD hu (Nat.mod_lt _ (by omega))
/-- Codes are applied one after the other as composed: on rings. -/
theorem compose_ring {K n m : Nat} (hK : K ≤ 3) (hn : 1 ≤ n) (hm : 1 ≤ m) (o o' : ByteArray) {u : List UInt8} (hu : areLet K u = true) (h1 : 1 ≤ u.length) : ringL K (n + m - 1) (mkS ((wordsL K (n + m - 1)).map (composeL K m o o'))) u = ringL K n o (ringL K m o' u) := by
  have hl := ringL_length (K := K) (n := m) (o := o') hm h1
  refine List.ext_getElem ?_ fun i h2 h3 => ?_
  · rw [ringL_length (by omega) h1, ringL_length hn (by omega), hl]
  · have hi : i < u.length := by rw [ringL_length (by omega) h1] at h2; exact h2
    rw [get_getD h2, get_getD h3, ringL_get (by omega) hi, ringL_get hn (by omega), givesL_table hK _ (areLet_cyc hu h1) (cyc_length _ _ _)]
    unfold composeL
    congr 1
    refine List.ext_getElem (by rw [applyL_length, cyc_length, cyc_length]; omega) fun t h4 h5 => ?_
    have ht : t < n := by rw [cyc_length] at h5; exact h5
    rw [get_getD h4, get_getD h5, cyc_get ht, hl, apply_get (by rw [cyc_length]; omega), part_cyc (by omega), ringL_get hm (Nat.mod_lt _ (by omega)), cyc_mod]
end Go.Cm

