/- Several texts of mine in one: Tools, Reads, Own, Mat, Own3, Own4, Hoist, Tab, Rel. -/
import Derived.WalkKit
import Derived.WalkSpells
import Derived.Orders
import Derived.Still
import Derived.StillTail
import Derived.Deep.QuietTactic
import Derived.BigQuiet
import Derived.ProofKit
import Derived.OpenShut
import Derived.ShutString
import Derived.ChangeOld
import Derived.Lib.SmallJoins
import Derived.Deep.Matrix
import Derived.Deep.Fields
import Derived.Deep.OwnRows
import Derived.Laws.IdiomStrings
import Derived.Laws.BytesArg
import Derived.Lib.Hide
import Derived.Laws.CopyOwn
/- General tools: a region that asks the tape for its order, walked once, where each operation only makes new memory; small facts on worlds. No dump is imported. -/
namespace Go
open Go.RowKit

/-- Nothing that is there has turned. -/
def Ext (w w' : World) : Prop := Below w.heap.size w w'

theorem Ext.refl (w : World) : Ext w w := Below.refl _ _
theorem Ext.trans {a b c : World} (h : Ext a b) (k : Ext b c) : Ext a c :=
  Below.trans h (Below.mono k (Below.size h))
theorem Ext.below {B : Nat} {a b : World} (h : Ext a b) (hB : B ≤ a.heap.size) : Below B a b := Below.mono h hB
theorem Ext.drew (w : World) : Ext w w.drew := (Below.refl _ _).drew
theorem Ext.alloc (w : World) (o : Obj) : Ext w (w.alloc o) := (Below.refl _ _).alloc (Nat.le_refl _) o

theorem Ext.drewN {a w : World} (h : Ext a w) (n : Nat) : Ext a (w.drewN n) :=
  Below.trans (b := w) h ⟨rfl, rfl, rfl, Nat.le_refl _, fun _ _ => rfl⟩

/-- A callee's contract that leaves the world alone, met in a quiet region. -/
theorem Calls.quiet_is {P : Program} {f : FuncId} {args : Array Value} {w : World} {n : Nat} {v : Value}
    (h : Calls P f args (w.drewN n) fun e w' => e = .returned v ∧ w.drewN n = w') : Calls P f args (w.drewN n) fun e w'' => e = .returned v ∧ ∃ m, w'' = w.drewN m :=
  h.mono fun _ _ ⟨he, hm⟩ => ⟨he, n, hm.symm⟩

/-- What is said of a slot's value, and stays true while memory grows. -/
structure Keep where
  J : Value → World → Prop
  ok : ∀ v w w', Ext w w' → J v w → J v w'
  val : Option Value
  hval : ∀ c, val = some c → ∀ v w, J v w → v = c

@[go_sem] def Keep.known (c : Value) : Keep := ⟨fun v _ => v = c, fun _ _ _ _ h => h, some c, fun _ e _ _ h => h.trans (Option.some.inj e)⟩
@[go_sem] def Keep.any : Keep := ⟨fun _ _ => True, fun _ _ _ _ h => h, none, fun _ e => by cases e⟩
@[go_sem] def Keep.such (J : Value → World → Prop) (ok : ∀ v w w', Ext w w' → J v w → J v w') : Keep := ⟨J, ok, none, fun _ e => by cases e⟩
/-- the value, where it is known beforehand -/
@[go_sem] def Keep.at (s : Keep) (v : Value) : Value := s.val.getD v
theorem Keep.at_eq (s : Keep) {v : Value} {w : World} (h : s.J v w) : s.at v = v := by
  unfold Keep.at
  cases hc : s.val with
  | none => rfl
  | some c => exact (s.hval c hc v w h).symm

@[go_sem] theorem Ext.refl_iff (w : World) : Ext w w ↔ True := ⟨fun _ => trivial, fun _ => Ext.refl w⟩
theorem Ext.cell_some {w w' : World} (h : Ext w w') {a : Addr} {v : Value} (hc : w.cell? a = some v) : w'.cell? a = some v :=
  (Below.cell h (World.block_lt_of_cell? w a hc)).trans hc

/-- a slice over one new cell that holds x -/
def BoxOf (x : Value) (v : Value) (w : World) : Prop := ∃ b, v = .slice (some ⟨b, 0, none⟩) 1 1 ∧ w.cell? ⟨b, 0, none⟩ = some x
@[go_sem] def Keep.box (x : Value) : Keep := ⟨BoxOf x, fun _ _ _ hx ⟨b, h1, h2⟩ => ⟨b, h1, Ext.cell_some hx h2⟩, none, fun _ e => by cases e⟩
theorem boxOf_new (x : Value) (w : World) (E : TypeId) : Ext w (w.alloc (.cells #[x] E)) ∧ BoxOf x (.slice (some ⟨w.heap.size, 0, none⟩) 1 1) (w.alloc (.cells #[x] E)) :=
  ⟨Ext.alloc _ _, w.heap.size, rfl, by simp⟩

/-! ### Counting what is left -/

def cntF : Nat → (Nat → Bool) → Nat
  | 0, _ => 0
  | n + 1, L => cntF n L + (if L n then 0 else 1)

theorem cntF_zero : ∀ {n : Nat} {L : Nat → Bool}, cntF n L = 0 → ∀ i, i < n → L i = true
  | 0, _, _, i, hi => absurd hi (Nat.not_lt_zero _)
  | n + 1, L, h, i, hi => by
    simp only [cntF] at h
    have h1 : cntF n L = 0 := by omega
    by_cases hin : i < n
    · exact cntF_zero h1 i hin
    · have : i = n := by omega
      subst this
      cases hL : L i
      · simp [hL] at h
      · rfl

theorem cntF_congr : ∀ {n : Nat} {L L' : Nat → Bool}, (∀ j, j < n → L j = L' j) → cntF n L = cntF n L'
  | 0, _, _, _ => rfl
  | n + 1, L, L', h => by
    simp only [cntF]
    rw [cntF_congr (n := n) (fun j hj => h j (by omega)), h n (by omega)]

theorem cntF_set : ∀ {n i : Nat} {L L' : Nat → Bool}, i < n → L i = false → L' i = true → (∀ j, j ≠ i → L' j = L j) → cntF n L' + 1 = cntF n L
  | 0, _, _, _, hi, _, _, _ => absurd hi (Nat.not_lt_zero _)
  | n + 1, i, L, L', hi, h0, h1, h => by
    simp only [cntF]
    by_cases hin : i < n
    · have := cntF_set hin h0 h1 h
      rw [h n (by omega)]
      omega
    · have : i = n := by omega
      subst this
      rw [cntF_congr (n := i) (L := L') (L' := L) (fun j hj => h j (by omega)), h0, h1]
      simp

section
variable {P : Program}

/-- What an operation leaves behind: its value keeps what is said of it, and memory has only grown. -/
@[go_sem] def Oper.leaves (P : Program) (I : Value → World → Prop) (w : World) : Result Next → Prop
  | .ok (.value u) w' => Ext w w' ∧ I u w'
  | .ok .skip w' => Ext w w' ∧ I undef w'
  | .ok (.enter f args) w' => Ext w w' ∧ Calls P f args w' (fun e w'' => ∃ v, e = .returned v ∧ Ext w' w'' ∧ I v w'')
  | _ => False

@[go_sem] def Oper.leavesAt (P : Program) (I : Value → World → Prop) (o : Oper) (c : Act) (w : World) : Prop := Oper.leaves P I w ((execOp c.eval o).run P w)

/-- The place of the operation that writes a slot. -/
def dstOf (l : List Oper) (t : Nat) : Option Nat := l.findIdx? (fun o => o.dst == some t)

theorem dstOf_some {l : List Oper} {t : Nat} {j : Nat} (h : dstOf l t = some j) : ∃ o, l[j]? = some o ∧ o.dst = some t := by
  unfold dstOf at h
  obtain ⟨hj, hp, _⟩ := List.findIdx?_eq_some_iff_getElem.1 h
  exact ⟨l[j], by simp [hj], by simpa using hp⟩

/-- One operation of a region, and the places of those that surely come before it. -/
def ancOk1 (l : List Oper) (anc : List (List Nat)) (i : Nat) (o : Oper) (A : List Nat) : Bool :=
  (match o.dst with | some d => dstOf l d == some i | none => true) &&
  (o.looksAt l.toArray).all (fun t => match dstOf l t with | some j => A.contains j || ((anc[j]?).getD []).contains i | none => true) &&
  A.all (fun j => decide (j < l.length) && o.after.any (fun e => Region.binds .any e && (e.on == j || ((anc[e.on]?).map (·.contains j)).getD false))) &&
  o.after.all (fun e => !Region.binds .any e || decide (e.on < i))

def ancOk (l : List Oper) (anc : List (List Nat)) : Bool :=
  (l.length == anc.length) && Region.noSelect l.toArray &&
  (List.range l.length).all fun i => match l[i]?, anc[i]? with
    | some o, some A => ancOk1 l anc i o A
    | _, _ => false

/-- The forerunners of each operation, by the edges. -/
def ancAll : List Oper → List (List Nat) → List (List Nat)
  | [], acc => acc
  | o :: rest, acc => ancAll rest (acc ++ [o.after.toList.foldl (fun s e => if Region.binds .any e then (e.on :: acc.getD e.on []).foldl (fun s j => if s.contains j then s else j :: s) s else s) []])

def ancB (l : List Oper) (i j : Nat) : Bool := ((ancAll l [])[i]?.getD []).contains j

theorem ancOk_at {l : List Oper} {anc : List (List Nat)} (h : ancOk l anc = true) {i : Nat} {o : Oper} (hi : l[i]? = some o) :
    ∃ A, anc[i]? = some A ∧ ancOk1 l anc i o A = true := by
  simp only [ancOk, Bool.and_eq_true, List.all_eq_true] at h
  have hlt : i < l.length := (List.getElem?_eq_some_iff.1 hi).1
  have := h.2 i (by simpa using hlt)
  rw [hi] at this
  cases ha : anc[i]? with
  | none => simp [ha] at this
  | some A => exact ⟨A, rfl, by simpa [ha] using this⟩

/-- The frame when all before place m are done, in the text's order. -/
def lexN (l : List Oper) (vs : Nat → Value) (a : Act) : Nat → Act
  | 0 => a
  | m + 1 => (lexN l vs a m).put ((l[m]?).bind (·.dst)) (vs m)

/-- A frame in which just the operations of L are done. -/
def Agrees (l : List Oper) (a : Act) (vs : Nat → Value) (L : Nat → Bool) (c : Act) : Prop :=
  c.defers = a.defers ∧ ∀ t : Nat, c.tmps[t]? = match dstOf l t with
    | some j => if L j = true then (if t < a.tmps.size then some (vs j) else none) else a.tmps[t]?
    | none => a.tmps[t]?

theorem Act.put_at (c : Act) (d : Nat) (v : Value) (t : Nat) : (c.put (some d) v).tmps[t]? = if t = d then (if t < c.tmps.size then some v else none) else c.tmps[t]? := by
  simp only [Act.put, Array.getElem?_setIfInBounds]
  by_cases h : d = t
  · subst h; simp
  · simp [h, Ne.symm h]

theorem Agrees.size {l : List Oper} {a c : Act} {vs : Nat → Value} {L : Nat → Bool} (h : Agrees l a vs L c) (t : Nat) : t < c.tmps.size ↔ t < a.tmps.size := by
  have := h.2 t
  cases hd : dstOf l t with
  | none =>
    simp only [hd] at this
    by_cases h1 : t < c.tmps.size
    · rw [Array.getElem?_eq_getElem h1] at this
      have := (Array.getElem?_eq_some_iff.1 this.symm).1
      simp [h1, this]
    · rw [Array.getElem?_eq_none (by omega)] at this
      have := Array.getElem?_eq_none_iff.1 this.symm
      omega
  | some j =>
    simp only [hd] at this
    by_cases hL : L j = true
    · simp only [hL, if_true] at this
      by_cases h1 : t < c.tmps.size
      · rw [Array.getElem?_eq_getElem h1] at this
        by_cases h2 : t < a.tmps.size
        · simp [h1, h2]
        · simp [h2] at this
      · rw [Array.getElem?_eq_none (by omega)] at this
        by_cases h2 : t < a.tmps.size
        · simp [h2] at this
        · omega
    · simp only [hL] at this
      by_cases h1 : t < c.tmps.size
      · rw [Array.getElem?_eq_getElem h1] at this
        have := (Array.getElem?_eq_some_iff.1 this.symm).1
        simp [h1, this]
      · rw [Array.getElem?_eq_none (by omega)] at this
        have := Array.getElem?_eq_none_iff.1 (this.symm)
        omega

/-- One more operation is done. -/
theorem Agrees.step {l : List Oper} {anc : List (List Nat)} (hB : ancOk l anc = true) {a c : Act} {vs vs' : Nat → Value} {L L' : Nat → Bool} {i : Nat} {o : Oper} (hi : l[i]? = some o) (v : Value)
    (h : Agrees l a vs L c) (hL : ∀ j, j ≠ i → L' j = L j) (hLi : L' i = true) (hv : vs' i = v) (hvs : ∀ j, j ≠ i → vs' j = vs j) : Agrees l a vs' L' (c.put o.dst v) := by
  obtain ⟨A, hA, hok⟩ := ancOk_at hB hi
  simp only [ancOk1, Bool.and_eq_true] at hok
  have hdst := hok.1.1.1
  refine ⟨by cases o.dst <;> exact h.1, fun t => ?_⟩
  have hsz := h.size t
  have ht := h.2 t
  cases hd : o.dst with
  | none =>
    show c.tmps[t]? = _
    rw [ht]
    cases hj : dstOf l t with
    | none => rfl
    | some j =>
      have hji : j ≠ i := fun e => by
        subst e
        obtain ⟨o', ho', hd'⟩ := dstOf_some hj
        rw [hi] at ho'; cases ho'; rw [hd] at hd'; cases hd'
      simp only [hL j hji, hvs j hji]
  | some d =>
    rw [hd] at hdst
    have hdi : dstOf l d = some i := by simpa using hdst
    rw [Act.put_at]
    by_cases htd : t = d
    · subst htd
      rw [if_pos rfl, hdi]
      simp only [hLi, if_true, hv]
      by_cases h1 : t < c.tmps.size
      · simp [h1, hsz.1 h1]
      · have : ¬ t < a.tmps.size := fun h2 => h1 (hsz.2 h2)
        simp [h1, this]
    · rw [if_neg htd, ht]
      cases hj : dstOf l t with
      | none => rfl
      | some j =>
        have hji : j ≠ i := fun e => by
          subst e
          obtain ⟨o', ho', hd'⟩ := dstOf_some hj
          rw [hi] at ho'; cases ho'; rw [hd] at hd'
          exact htd (Option.some.inj hd').symm
        simp only [hL j hji, hvs j hji]

theorem Agrees.lex {l : List Oper} {anc : List (List Nat)} (hB : ancOk l anc = true) (a : Act) (vs : Nat → Value) : ∀ m, m ≤ l.length → Agrees l a vs (fun j => decide (j < m)) (lexN l vs a m)
  | 0, _ => ⟨rfl, fun t => by cases dstOf l t <;> simp [lexN]⟩
  | m + 1, hm => by
    have hi : l[m]? = some l[m] := List.getElem?_eq_getElem (by omega)
    have := Agrees.step hB hi (vs m) (Agrees.lex hB a vs m (by omega)) (vs' := vs) (L' := fun j => decide (j < m + 1)) (fun j hj => by simp only [decide_eq_decide]; omega) (by simp) rfl (fun _ _ => rfl)
    simpa [lexN, hi] using this

theorem Agrees.congr {l : List Oper} {a c : Act} {vs vs' : Nat → Value} {L L' : Nat → Bool} (h : Agrees l a vs L c) (hL : ∀ j o, l[j]? = some o → L j = L' j) (hv : ∀ j, L j = true → vs j = vs' j) : Agrees l a vs' L' c := by
  refine ⟨h.1, fun t => ?_⟩
  rw [h.2 t]
  cases hj : dstOf l t with
  | none => rfl
  | some j =>
    obtain ⟨o, ho, _⟩ := dstOf_some hj
    simp only [← hL j o ho]
    by_cases hl : L j = true
    · simp only [hl, if_true, hv j hl]
    · simp only [hl, Bool.false_eq_true, if_false]

theorem Agrees.unique {l : List Oper} {a c c' : Act} {vs : Nat → Value} {L : Nat → Bool} (h : Agrees l a vs L c) (h' : Agrees l a vs L c') : c = c' := by
  obtain ⟨t, d⟩ := c
  obtain ⟨t', d'⟩ := c'
  have h1 : d = d' := h.1.trans h'.1.symm
  have h2 : t = t' := Array.ext_getElem? fun i => (h.2 i).trans (h'.2 i).symm
  subst h1; subst h2; rfl

/-- What an operation looks at reads alike where its forerunners are done, and none of those that wait for it. -/
theorem Agrees.sees {l : List Oper} {anc : List (List Nat)} (hB : ancOk l anc = true) {a c c' : Act} {vs : Nat → Value} {L L' : Nat → Bool} {i : Nat} {o : Oper} {A : List Nat} (hi : l[i]? = some o) (hA : anc[i]? = some A)
    (h : Agrees l a vs L c) (h' : Agrees l a vs L' c') (hL : ∀ j ∈ A, L j = true) (hL' : ∀ j ∈ A, L' j = true) (hN : ∀ j B, anc[j]? = some B → i ∈ B → L j = false) (hN' : ∀ j B, anc[j]? = some B → i ∈ B → L' j = false) : ∀ t ∈ o.looksAt l.toArray, c.tmps[t]? = c'.tmps[t]? := by
  intro t ht
  obtain ⟨A', hA', hok⟩ := ancOk_at hB hi
  rw [hA] at hA'; cases hA'
  simp only [ancOk1, Bool.and_eq_true, List.all_eq_true] at hok
  have := hok.1.1.2 t ht
  rw [h.2 t, h'.2 t]
  cases hj : dstOf l t with
  | none => rfl
  | some j =>
    rw [hj] at this
    simp only [Bool.or_eq_true] at this
    rcases this with this | this
    · have hjA : j ∈ A := by simpa using this
      simp only [hL j hjA, hL' j hjA]
    · cases hB' : anc[j]? with
      | none => rw [hB'] at this; simp at this
      | some B =>
        rw [hB'] at this
        have hiB : i ∈ B := by simpa using this
        simp only [hN j B hB' hiB, hN' j B hB' hiB, Bool.false_eq_true, if_false]

/-- A forerunner stands ahead. -/
theorem anc_lt {l : List Oper} {anc : List (List Nat)} (hB : ancOk l anc = true) : ∀ (n i : Nat), i ≤ n → ∀ o A, l[i]? = some o → anc[i]? = some A → ∀ j ∈ A, j < i := by
  intro n
  induction n with
  | zero =>
    intro i hin o A hol hA j hj
    obtain ⟨A', hA', hok'⟩ := ancOk_at hB hol
    rw [hA] at hA'; cases hA'
    simp only [ancOk1, Bool.and_eq_true, List.all_eq_true, Array.any_eq_true, Array.all_eq_true_iff_forall_mem] at hok'
    obtain ⟨k, hk, he⟩ := (hok'.1.2 j hj).2
    have hlt := hok'.2 _ (Array.getElem_mem hk)
    simp [he.1] at hlt
    omega
  | succ n ihn =>
    intro i hin o A hol hA j hj
    obtain ⟨A', hA', hok'⟩ := ancOk_at hB hol
    rw [hA] at hA'; cases hA'
    simp only [ancOk1, Bool.and_eq_true, List.all_eq_true, Array.any_eq_true, Array.all_eq_true_iff_forall_mem] at hok'
    obtain ⟨k, hk, he⟩ := (hok'.1.2 j hj).2
    have hlt := hok'.2 _ (Array.getElem_mem hk)
    simp only [Bool.or_eq_true] at he
    simp [he.1] at hlt
    rcases he.2 with he | he
    · have : (o.after[k]'hk).on = j := by simpa using he
      omega
    · cases hB' : anc[(o.after[k]'hk).on]? with
      | none => rw [hB'] at he; simp at he
      | some B =>
        rw [hB'] at he
        have hlt' : (o.after[k]'hk).on < l.length := by
          have := (List.getElem?_eq_some_iff.1 hol).1
          omega
        have := ihn (o.after[k]'hk).on (by omega) l[(o.after[k]'hk).on] B (List.getElem?_eq_getElem hlt') hB' j (by simpa using he)
        omega

theorem execOp_sees {ops : Array Oper} (o : Oper) (hs : ∀ cs b, o.op ≠ .select cs b) {c c' : Act} (h : ∀ t ∈ o.looksAt ops, c.tmps[t]? = c'.tmps[t]?) : execOp c.eval o = execOp c'.eval o :=
  execOp_congr o hs fun x hx => by
    cases x with
    | tmp t =>
      have := h t (List.mem_append_left _ (List.mem_filterMap.2 ⟨.tmp t, by simpa using hx, rfl⟩))
      simp only [Act.eval, Array.getD_eq_getD_getElem?, this]
    | _ => rfl

theorem wanted_sees {ops : Array Oper} (o : Oper) {c c' : Act} (h : ∀ t ∈ o.looksAt ops, c.tmps[t]? = c'.tmps[t]?) : Region.wanted o (yielded ops c.tmps) = Region.wanted o (yielded ops c'.tmps) := by
  unfold Region.wanted
  cases hg : o.guard with
  | none => rfl
  | some gw =>
    obtain ⟨g, want⟩ := gw
    have hy : yielded ops c.tmps g = yielded ops c'.tmps g := by
      unfold yielded
      cases ht : (ops[g]?).bind (·.dst) with
      | none => rfl
      | some t =>
        have := h t (by simp [Oper.looksAt, hg, ht])
        simp only [Option.bind_some, this]
    simp only [hy]

/-- What of the slots is known, in a place. -/
def vsAt (S : List Keep) (vs : Nat → Value) (j : Nat) : Value := ((S[j]?).map (fun s => s.at (vs j))).getD (vs j)

/-- A region's operations in the text's order, each with what is said of its value. -/
def invSteps (P : Program) (ops : List Oper) (F : World → Prop) (S : List Keep) (vs : Nat → Value) : List Oper → List Keep → Nat → Act → Prop
  | o :: rest, s :: srest, i, c =>
    (∀ w', F w' → (∀ j, ancB ops i j = true → ((S[j]?).map (fun s => s.J (vs j) w')).getD True) → if Region.wanted o (yielded ops.toArray c.tmps) = true then o.leavesAt P s.J c w' else s.J undef w') ∧
    invSteps P ops F S vs rest srest (i + 1) (c.put o.dst (s.at (vs i)))
  | _, _, _, _ => True

theorem invSteps_at {F : World → Prop} {S0 : List Keep} {vs : Nat → Value} {l0 : List Oper} {a : Act} : ∀ (l : List Oper) (S : List Keep) (k : Nat),
    (∀ j, l[j]? = l0[k + j]?) → (∀ j, S[j]? = S0[k + j]?) → invSteps P l0 F S0 vs l S k (lexN l0 (vsAt S0 vs) a k) → ∀ i o s, l[i]? = some o → S[i]? = some s →
    ∀ w', F w' → (∀ j, ancB l0 (k + i) j = true → ((S0[j]?).map (fun s => s.J (vs j) w')).getD True) →
      if Region.wanted o (yielded l0.toArray (lexN l0 (vsAt S0 vs) a (k + i)).tmps) = true then o.leavesAt P s.J (lexN l0 (vsAt S0 vs) a (k + i)) w' else s.J undef w'
  | [], _, _, _, _, _, i, o, s, hi, _ => by simp at hi
  | o' :: l, [], _, _, _, _, i, o, s, _, hs => by simp at hs
  | o' :: l, s' :: S, k, hl, hS, h, 0, o, s, hi, hs => by
    simp only [List.getElem?_cons_zero, Option.some.injEq] at hi hs
    subst hi; subst hs
    exact h.1
  | o' :: l, s' :: S, k, hl, hS, h, i + 1, o, s, hi, hs => by
    have h0 : l0[k]? = some o' := by simpa using (hl 0).symm
    have s0 : S0[k]? = some s' := by simpa using (hS 0).symm
    have := invSteps_at l S (k + 1) (fun j => by have := hl (j + 1); simpa [Nat.add_assoc, Nat.add_comm 1 j] using this) (fun j => by have := hS (j + 1); simpa [Nat.add_assoc, Nat.add_comm 1 j] using this)
      (by simpa [lexN, h0, vsAt, s0] using h.2) i o s (by simpa using hi) (by simpa using hs)
    have e : k + 1 + i = k + (i + 1) := by omega
    rw [e] at this
    exact this

/-- The frame behind the region. -/
def lexGo (vs : Nat → Value) : List Oper → List Keep → Nat → Act → Act
  | o :: rest, s :: srest, i, c => lexGo vs rest srest (i + 1) (c.put o.dst (s.at (vs i)))
  | _, _, _, c => c
@[go_sem] theorem lexGo_cons (vs : Nat → Value) (o : Oper) (rest : List Oper) (s : Keep) (srest : List Keep) (i : Nat) (c : Act) : lexGo vs (o :: rest) (s :: srest) i c = lexGo vs rest srest (i + 1) (c.put o.dst (s.at (vs i))) := rfl
@[go_sem] theorem lexGo_nil (vs : Nat → Value) (l : List Oper) (i : Nat) (c : Act) : lexGo vs l [] i c = c := by cases l <;> rfl

theorem lexGo_eq {S0 : List Keep} {vs : Nat → Value} {l0 : List Oper} {a : Act} : ∀ (l : List Oper) (S : List Keep) (k : Nat),
    (∀ j, l[j]? = l0[k + j]?) → (∀ j, S[j]? = S0[k + j]?) → S.length ≤ l.length → lexGo vs l S k (lexN l0 (vsAt S0 vs) a k) = lexN l0 (vsAt S0 vs) a (k + S.length)
  | l, [], _, _, _, _ => by rw [lexGo_nil]; rfl
  | [], _ :: _, _, _, _, h => by simp at h
  | o :: l, s :: S, k, hl, hS, h => by
    have h0 : l0[k]? = some o := by simpa using (hl 0).symm
    have s0 : S0[k]? = some s := by simpa using (hS 0).symm
    have := lexGo_eq (vs := vs) (l0 := l0) (S0 := S0) (a := a) l S (k + 1) (fun j => by have := hl (j + 1); simpa [Nat.add_assoc, Nat.add_comm 1 j] using this) (fun j => by have := hS (j + 1); simpa [Nat.add_assoc, Nat.add_comm 1 j] using this) (by simpa using h)
    have e : k + (s :: S).length = k + 1 + S.length := by simp; omega
    rw [e, ← this]
    simp [lexGo, lexN, h0, vsAt, s0]

theorem ready_bounds {ops : Array Oper} {md : Region.Mode} {listed : Array Bool} {j : Nat} (h : j ∈ Region.ready md ops listed) : j < ops.size := by
  obtain ⟨_, o, ho, _⟩ := mem_ready.1 h
  exact (Array.getElem?_eq_some_iff.1 ho).1

/-- Where nothing is ready, all is done. -/
theorem all_listed {l : List Oper} {anc : List (List Nat)} (hB : ancOk l anc = true) {listed : Array Bool} (hr : Region.ready .any l.toArray listed = []) : ∀ i, i < l.length → listed.getD i true = true := by
  intro i
  induction i using Nat.strongRecOn with
  | ind i ih =>
    intro hi
    cases hL : listed.getD i true with
    | true => rfl
    | false =>
      exfalso
      have ho : l[i]? = some l[i] := List.getElem?_eq_getElem hi
      obtain ⟨A, hA, hok⟩ := ancOk_at hB ho
      simp only [ancOk1, Bool.and_eq_true, Array.all_eq_true_iff_forall_mem] at hok
      have : i ∈ Region.ready .any l.toArray listed := mem_ready.2 ⟨hL, l[i], by simp, fun e he hb => by
        have h1 := hok.2 e he
        have hlt : e.on < i := by simpa [hb] using h1
        have h2 := ih e.on hlt (by omega)
        have hsz : i < listed.size := by
          rcases Nat.lt_or_ge i listed.size with h | h
          · exact h
          · simp [Array.getElem?_eq_none h] at hL
        have : e.on < listed.size := by omega
        simp [this] at h2 ⊢
        exact h2⟩
      rw [hr] at this
      cases this

/-- What stands from place m on comes behind all that stands ahead of it, in the text's order. -/
def tailOk (l : List Oper) (m : Nat) : Bool :=
  ((List.range l.length).all fun t => decide (t < m) || (List.range t).all fun j => ancB l t j) && Region.seqB .any l.toArray (l.length - m) m (Array.replicate m true ++ Array.replicate (l.length - m) false)

theorem wpAny_inv {l : List Oper} {S : List Keep} {m : Nat} (hS : S.length = m) (hml : m ≤ l.length) (hB : ancOk l (ancAll l []) = true) (hT : tailOk l m = true) {F : World → Prop} (hF : ∀ w w', Ext w w' → F w → F w') {a : Act} {Q : Exit → Act → World → Prop}
    (steps : ∀ vs, invSteps P l F S vs l S 0 a)
    (post : ∀ (vs : Nat → Value) w', F w' → (∀ (j : Nat) (s : Keep), S[j]? = some s → s.J (vs j) w') → wpList P l.toArray Q (l.drop m) (lexN l (vsAt S vs) a m) w') :
    ∀ (fuel : Nat) (listed : Array Bool) (vs : Nat → Value) (c : Act) (w : World), listed.size = l.length → cntF m (fun i => listed.getD i true) = fuel → (∀ i, m ≤ i → i < l.length → listed.getD i true = false) →
      (∀ (i : Nat) (A : List Nat), listed[i]? = some true → (ancAll l [])[i]? = some A → ∀ j ∈ A, listed[j]? = some true) →
      Agrees l a vs (fun j => listed.getD j true) c → F w → (∀ (j : Nat) (s : Keep), listed[j]? = some true → S[j]? = some s → s.J (vs j) w) → wpAny P .any l.toArray Q (fuel + (l.length - m)) listed c w := by
  -- what is known is what is there
  have known : ∀ (listed : Array Bool) (vs : Nat → Value) (w : World), (∀ (j : Nat) (s : Keep), listed[j]? = some true → S[j]? = some s → s.J (vs j) w) → ∀ j, listed[j]? = some true → vs j = vsAt S vs j := by
    intro listed vs w hI j hj
    unfold vsAt
    cases hs : S[j]? with
    | none => rfl
    | some s => exact (s.at_eq (hI j s hj hs)).symm
  have truth : ∀ {listed : Array Bool} {j : Nat}, listed.size = l.length → j < l.length → listed.getD j true = true → listed[j]? = some true := by
    intro listed j hsz hj h
    have h2 : j < listed.size := by omega
    simp [h2] at h ⊢
    exact h
  simp only [tailOk, Bool.and_eq_true, List.all_eq_true] at hT
  -- the end
  have fin : ∀ (listed : Array Bool) (vs : Nat → Value) (c : Act) (w : World), listed.size = l.length → (∀ i, i < m → listed.getD i true = true) → (∀ i, m ≤ i → i < l.length → listed.getD i true = false) → Agrees l a vs (fun j => listed.getD j true) c → F w →
      (∀ (j : Nat) (s : Keep), listed[j]? = some true → S[j]? = some s → s.J (vs j) w) → wpAny P .any l.toArray Q (l.length - m) listed c w := by
    intro listed vs c w hsz hall hrest hag hFw hI
    have kn := known listed vs w hI
    have e : c = lexN l (vsAt S vs) a m := by
      refine Agrees.unique (hag.congr (vs' := vsAt S vs) (L' := fun j => listed.getD j true) (fun _ _ _ => rfl) (fun j hj => ?_)) ((Agrees.lex hB a (vsAt S vs) m hml).congr (fun j o ho => ?_) (fun _ _ => rfl))
      · by_cases hlt : j < l.length
        · exact kn j (truth hsz hlt hj)
        · unfold vsAt
          rw [List.getElem?_eq_none (by omega)]
          rfl
      · have hj : j < l.length := (List.getElem?_eq_some_iff.1 ho).1
        by_cases hjm : j < m
        · simp only [hall j hjm]
          simpa using hjm
        · simp only [hrest j (by omega) hj]
          simpa using hjm
    have el : listed = Array.replicate m true ++ Array.replicate (l.length - m) false := by
      apply Array.ext
      · simp; omega
      · intro i h1 h2
        have hil : i < l.length := by omega
        by_cases him : i < m
        · have := truth hsz hil (hall i him)
          rw [Array.getElem?_eq_getElem h1] at this
          rw [Option.some.inj this]
          simp [him]
        · have := hrest i (by omega) hil
          simp [h1] at this
          rw [this]
          simp [Array.getElem_append, him]
    have hseq : Region.seqB .any l.toArray (l.drop m).length m listed = true := by
      rw [el, List.length_drop]; exact hT.2
    have := wpAny_of_seq (P := P) (Q' := Q) (ops := l.toArray) (l.drop m) m listed c w (fun j => by simp) hseq (by
      rw [e]
      refine post vs w hFw fun j s hs => hI j s ?_ hs
      have hj : j < S.length := (List.getElem?_eq_some_iff.1 hs).1
      exact truth hsz (by omega) (hall j (by omega)))
    rwa [List.length_drop] at this
  intro fuel
  induction fuel with
  | zero =>
    intro listed vs c w hsz hcnt hrest hcl hag hFw hI
    rw [Nat.zero_add]
    exact fin listed vs c w hsz (cntF_zero hcnt) hrest hag hFw hI
  | succ fuel ih =>
    intro listed vs c w hsz hcnt hrest hcl hag hFw hI
    rw [show fuel + 1 + (l.length - m) = (fuel + (l.length - m)) + 1 by omega]
    have hsome : ∃ i, i < m ∧ listed.getD i true = false := by
      apply Classical.byContradiction
      intro hno
      have : cntF m (fun i => listed.getD i true) = 0 := by
        have h0 : ∀ n, n ≤ m → cntF n (fun i => listed.getD i true) = 0 := by
          intro n
          induction n with
          | zero => intro _; rfl
          | succ n ihn =>
            intro hn
            have : listed.getD n true = true := by
              cases hv : listed.getD n true with
              | true => rfl
              | false => exact absurd ⟨n, by omega, hv⟩ hno
            simp only [cntF, ihn (by omega), this]
            simp
        exact h0 m (Nat.le_refl _)
      omega
    refine ⟨fun hr => ?_, fun i hi => ?_⟩
    · exfalso
      obtain ⟨i, him, hun⟩ := hsome
      have := all_listed hB hr i (by omega)
      rw [this] at hun; cases hun
    have hil : i < l.length := by simpa using ready_bounds hi
    obtain ⟨hun, o, ho, hafter⟩ := mem_ready.1 hi
    have hol : l[i]? = some o := by simpa using ho
    obtain ⟨A, hA, hok⟩ := ancOk_at hB hol
    simp only [ancOk1, Bool.and_eq_true, List.all_eq_true, Array.any_eq_true] at hok
    have hns : ∀ cs b, o.op ≠ .select cs b := by
      have := hB
      simp only [ancOk, Bool.and_eq_true] at this
      exact fun cs b => Region.noSelect_spec this.1.2 i o cs b ho
    -- its forerunners are done
    have hAl : ∀ j ∈ A, listed[j]? = some true := by
      intro j hj
      have h1 := (hok.1.2 j hj)
      obtain ⟨k, hk, he⟩ := h1.2
      simp only [Bool.or_eq_true] at he
      have hl := hafter _ (Array.getElem_mem hk) he.1
      have hl' : listed[(o.after[k]'hk).on]? = some true := by
        cases hx : listed[(o.after[k]'hk).on]? with
        | none => simp [Array.getD_eq_getD_getElem?, hx] at hl
        | some b => simp [Array.getD_eq_getD_getElem?, hx] at hl; rw [hl]
      rcases he.2 with he | he
      · have : (o.after[k]'hk).on = j := by simpa using he
        rw [← this]; exact hl'
      · cases hB' : (ancAll l [])[(o.after[k]'hk).on]? with
        | none => rw [hB'] at he; simp at he
        | some B => rw [hB'] at he; exact hcl _ B hl' hB' j (by simpa using he)
    have hAL : ∀ j ∈ A, listed.getD j true = true := fun j hj => by simp [Array.getD_eq_getD_getElem?, hAl j hj]
    have him : i < m := by
      rcases Nat.lt_or_ge i m with h | h
      · exact h
      · exfalso
        obtain ⟨k, hkm, hkun⟩ := hsome
        have h1 := hT.1 i (by simpa using hil)
        simp only [Bool.or_eq_true, decide_eq_true_eq, List.all_eq_true] at h1
        rcases h1 with h1 | h1
        · omega
        · have h2 := h1 k (by simp; omega)
          unfold ancB at h2
          rw [hA] at h2
          have h3 := hAL k (by simpa using h2)
          rw [h3] at hkun; cases hkun
    -- the step's own law
    have hs : ∃ s, S[i]? = some s := ⟨S[i]'(by omega), List.getElem?_eq_getElem (by omega)⟩
    obtain ⟨s, hs⟩ := hs
    have law := invSteps_at (l0 := l) l S 0 (fun j => by rw [Nat.zero_add]) (fun j => by rw [Nat.zero_add]) (steps vs) i o s hol hs w hFw (fun j hj => by
      have hjA : j ∈ A := by
        unfold ancB at hj
        rw [Nat.zero_add, hA] at hj
        simpa using hj
      have h1 := hAl j hjA
      cases hsj : S[j]? with
      | none => simp
      | some s' => simp only [Option.map_some, Option.getD_some]; exact hI j s' h1 hsj)
    rw [Nat.zero_add] at law
    have hag' : Agrees l a (vsAt S vs) (fun j => listed.getD j true) c := hag.congr (fun _ _ _ => rfl) (fun j hj => by
      by_cases hlt : j < l.length
      · exact known listed vs w hI j (truth hsz hlt hj)
      · unfold vsAt
        rw [List.getElem?_eq_none (by omega)]
        rfl)
    have hsees := Agrees.sees hB hol hA hag' ((Agrees.lex hB a (vsAt S vs) i (by omega))) hAL (fun j hj => by
      have := anc_lt hB i i (Nat.le_refl _) o A hol hA j hj
      simpa using this) (fun j B hjB hiB => by
      -- what waits for it isn't done
      cases hL : listed.getD j true with
      | false => rfl
      | true =>
        exfalso
        have hjl : j < l.length := by
          have h1 : (ancAll l []).length = l.length := by
            have := hB
            simp only [ancOk, Bool.and_eq_true] at this
            have h2 := this.1.1
            simpa using (beq_iff_eq.1 h2).symm
          have := (List.getElem?_eq_some_iff.1 hjB).1
          omega
        have h1 := hcl j B (truth hsz hjl hL) hjB i hiB
        simp [Array.getD_eq_getD_getElem?, h1] at hun) (fun j B hjB hiB => by
      have hjl : j < l.length := by
        have h1 : (ancAll l []).length = l.length := by
          have := hB
          simp only [ancOk, Bool.and_eq_true] at this
          have h2 := this.1.1
          simpa using (beq_iff_eq.1 h2).symm
        have := (List.getElem?_eq_some_iff.1 hjB).1
        omega
      have := anc_lt hB j j (Nat.le_refl _) l[j] B (List.getElem?_eq_getElem hjl) hjB i hiB
      simp; omega)
    -- what comes behind
    have next : ∀ v w', Ext w w' → s.J v w' → wpAny P .any l.toArray Q (fuel + (l.length - m)) (listed.setIfInBounds i true) (c.put o.dst v) w' := by
      intro v w' hext hJ
      have hset : ∀ j, j ≠ i → (listed.setIfInBounds i true)[j]? = listed[j]? := fun j hj => by rw [Array.getElem?_setIfInBounds_ne (Ne.symm hj)]
      have hseti : (listed.setIfInBounds i true)[i]? = some true := by simp [hsz, hil]
      refine ih (listed.setIfInBounds i true) (fun j => if j = i then v else vs j) (c.put o.dst v) w' (by simp [hsz]) ?_ (fun k hk hkl => by
        rw [Array.getD_eq_getD_getElem?, hset k (by omega), ← Array.getD_eq_getD_getElem?]; exact hrest k hk hkl) ?_ ?_ (hF _ _ hext hFw) ?_
      · have := cntF_set (n := m) (i := i) (L := fun j => listed.getD j true) (L' := fun j => (listed.setIfInBounds i true).getD j true) him hun
          (by simp [Array.getD_eq_getD_getElem?, hseti]) (fun j hj => by simp only [Array.getD_eq_getD_getElem?, hset j hj])
        omega
      · intro k B hk hB' j hj
        by_cases hki : k = i
        · subst hki
          rw [hA] at hB'; cases hB'
          by_cases hji : j = k
          · rw [hji]; exact hseti
          · rw [hset j hji]; exact hAl j hj
        · rw [hset k hki] at hk
          have := hcl k B hk hB' j hj
          by_cases hji : j = i
          · rw [hji]; exact hseti
          · rw [hset j hji]; exact this
      · exact Agrees.step hB hol v hag (fun j hj => by simp only [Array.getD_eq_getD_getElem?, hset j hj]) (by simp [Array.getD_eq_getD_getElem?, hseti]) (by simp) (fun j hj => by simp [hj])
      · intro j s' hj hs'
        by_cases hji : j = i
        · subst hji
          rw [hs] at hs'; cases hs'
          simpa using hJ
        · rw [hset j hji] at hj
          simp only [hji, if_false]
          exact s'.ok _ _ _ hext (hI j s' hj hs')
    unfold wpOp
    simp only [ho]
    rw [wanted_sees o hsees]
    split
    · rename_i hw
      rw [if_pos hw] at law
      refine .inl ?_
      unfold Oper.leavesAt at law
      unfold Oper.wp
      rw [execOp_sees o hns hsees]
      generalize (execOp (lexN l (vsAt S vs) a i).eval o).run P w = r at law ⊢
      cases r with
      | ok n w' =>
        cases n <;> simp only [Oper.leaves] at law <;> simp only [Oper.upon]
        case value u => exact next u w' law.1 law.2
        case skip => exact next undef w' law.1 law.2
        case enter f args =>
          refine law.2.mono fun e w'' he => ?_
          obtain ⟨v, rfl, hext, hJ⟩ := he
          exact next v w'' (law.1.trans hext) hJ
      | halt x w' => simp only [Oper.leaves] at law
    · rename_i hw
      rw [if_neg hw] at law
      exact next undef w (Ext.refl w) law

/-- **ONE WALK IN THE TEXT's ORDER SERVES EVERY ORDER**, where all but the last operations make new memory at most and turn none, and the last ones come behind all of these: of each slot it is said beforehand what will be known of its value, whatever was done before it. -/
theorem wp_region_tail {id : Nat} {l : List Oper} {Q : Exit → Act → World → Prop} {a : Act} {w : World} (hm : P.follows .mixedOrders = true) (m : Nat) (S : List Keep) (hS : S.length = m) (hml : m ≤ l.length) (hB : ancOk l (ancAll l []) = true) (hT : tailOk l m = true)
    (steps : ∀ vs, invSteps P l (fun w' => Ext w w') S vs l S 0 a)
    (post : ∀ (vs : Nat → Value) w', Ext w w' → (∀ (j : Nat) (s : Keep), S[j]? = some s → s.J (vs j) w') → wpList P l.toArray Q (l.drop m) (lexGo vs l S 0 a) w') : (Code.region id l.toArray true).wp P Q a w := by
  refine wp_region_any hm ?_
  have post : ∀ (vs : Nat → Value) w', Ext w w' → (∀ (j : Nat) (s : Keep), S[j]? = some s → s.J (vs j) w') → wpList P l.toArray Q (l.drop m) (lexN l (vsAt S vs) a m) w' := fun vs w' h1 h2 => by
    have := post vs w' h1 h2
    rw [show lexGo vs l S 0 a = lexN l (vsAt S vs) a (0 + S.length) from lexGo_eq l S 0 (fun j => by rw [Nat.zero_add]) (fun j => by rw [Nat.zero_add]) (by omega), Nat.zero_add, hS] at this
    exact this
  have hz : ∀ j, j < l.length → (Array.replicate l.toArray.size false).getD j true = false := fun j hj => by simp [Array.getD_eq_getD_getElem?, hj]
  have hc : cntF m (fun i => (Array.replicate l.toArray.size false).getD i true) = m := by
    have : ∀ n, n ≤ l.length → cntF n (fun i => (Array.replicate l.toArray.size false).getD i true) = n := by
      intro n
      induction n with
      | zero => intro _; rfl
      | succ n ih =>
        intro hn
        simp only [cntF, ih (by omega), hz n (by omega)]
        simp
    exact this m hml
  have := wpAny_inv hS hml hB hT (F := fun w' => Ext w w') (fun _ _ h h' => h'.trans h) steps post m (Array.replicate l.toArray.size false) (fun _ => undef) a { w with drawn := w.drawn + 1 } (by simp) hc (fun i _ hi => hz i hi) ?_ ?_ (Ext.drew w) ?_
  · rw [show m + (l.length - m) = l.toArray.size by simp; omega] at this
    exact this
  · intro i A hi
    simp [Array.getElem?_replicate] at hi
  · refine ⟨rfl, fun t => ?_⟩
    cases hj : dstOf l t with
    | none => rfl
    | some j =>
      obtain ⟨o, ho, _⟩ := dstOf_some hj
      have : j < l.length := (List.getElem?_eq_some_iff.1 ho).1
      simp [Array.getD_eq_getD_getElem?, this]
  · intro j s hj
    simp [Array.getElem?_replicate] at hj

/-- .. where all operations are such. -/
theorem wp_region_inv {id : Nat} {l : List Oper} {Q : Exit → Act → World → Prop} {a : Act} {w : World} (hm : P.follows .mixedOrders = true) (S : List Keep) (hS : l.length = S.length) (hB : ancOk l (ancAll l []) = true)
    (steps : ∀ vs, invSteps P l (fun w' => Ext w w') S vs l S 0 a)
    (post : ∀ (vs : Nat → Value) w', Ext w w' → (∀ (j : Nat) (s : Keep), S[j]? = some s → s.J (vs j) w') → Q .normal (lexGo vs l S 0 a) w') : (Code.region id l.toArray true).wp P Q a w := by
  refine wp_region_tail hm l.length S hS.symm (Nat.le_refl _) hB ?_ steps fun vs w' h1 h2 => ?_
  · have : Region.ready .any l.toArray (Array.replicate l.length true ++ Array.replicate (l.length - l.length) false) = [] := by
      rw [List.eq_nil_iff_forall_not_mem]
      intro j hj
      have h1 := ready_bounds hj
      have h2 := (mem_ready.1 hj).1
      simp at h1
      simp [Array.getD_eq_getD_getElem?, h1] at h2
    simp only [tailOk, Nat.sub_self, Region.seqB, Bool.and_eq_true, List.all_eq_true]
    refine ⟨fun t ht => ?_, by rw [Nat.sub_self] at this; rw [this]; rfl⟩
    have : t < l.length := by simpa using ht
    simp [this]
  · rw [List.drop_length]; exact post vs w' h1 h2
end
end Go

/- What a slice reads as; how an argument that came in is opened. No dump is imported. -/
namespace Go
open Go.RowKit Go.Joins Go.Deep Go.ChangeShapes Go.WideShapes Go.ChangeAt

/-- The slice v shows these cells. -/
def Reads (w : World) (v : Value) (fs : List Value) : Prop :=
  ∃ (a : Option Addr) (cap : Nat), v = .slice a fs.length cap ∧ fs.length ≤ cap ∧ cap ≤ maxLen ∧ ∀ i (h : i < fs.length), ∃ b o, a = some ⟨b, o, none⟩ ∧ w.cell? ⟨b, o + i, none⟩ = some fs[i]

theorem Reads.ext {w w' : World} {v : Value} {fs : List Value} (h : Reads w v fs) (hx : Ext w w') : Reads w' v fs := by
  obtain ⟨a, cap, hv, h1, h2, h3⟩ := h
  refine ⟨a, cap, hv, h1, h2, fun i hi => ?_⟩
  obtain ⟨b, o, ha, hc⟩ := h3 i hi
  exact ⟨b, o, ha, hx.cell_some hc⟩

/-- .. of numbers -/
def ReadsI (w : World) (v : Value) (xs : List Int) : Prop := Reads w v (xs.map (.int .i64))
theorem ReadsI.ext {w w' : World} {v : Value} {xs : List Int} (h : ReadsI w v xs) (hx : Ext w w') : ReadsI w' v xs := Reads.ext h hx

/-- The numbers fit the kind. -/
def InI64 (xs : List Int) : Prop := ∀ x ∈ xs, -9223372036854775808 ≤ x ∧ x ≤ 9223372036854775807

/-- .. of rows of numbers -/
def ReadsRows (w : World) (v : Value) (m : List (List Int)) : Prop :=
  ∃ vs : List Value, vs.length = m.length ∧ Reads w v vs ∧ ∀ i (h : i < m.length), ∃ u, vs[i]? = some u ∧ ReadsI w u m[i]
theorem ReadsRows.ext {w w' : World} {v : Value} {m : List (List Int)} (h : ReadsRows w v m) (hx : Ext w w') : ReadsRows w' v m := by
  obtain ⟨vs, h1, h2, h3⟩ := h
  refine ⟨vs, h1, h2.ext hx, fun i hi => ?_⟩
  obtain ⟨u, h4, h5⟩ := h3 i hi
  exact ⟨u, h4, h5.ext hx⟩

/-- .. of texts -/
def ReadsS (w : World) (v : Value) (ss : List ByteArray) : Prop := Reads w v (ss.map .string)
theorem ReadsS.ext {w w' : World} {v : Value} {ss : List ByteArray} (h : ReadsS w v ss) (hx : Ext w w') : ReadsS w' v ss := Reads.ext h hx

theorem i64_bounds {n : Int} (h : (Lit.int .i64 n).wf = true) : -9223372036854775808 ≤ n ∧ n ≤ 9223372036854775807 := by
  have := bounds_i64 h
  omega

theorem strip_cut (rest : List (List Char)) : stripLifts liftWords ("cut".toList :: rest) = ([], "cut".toList :: rest) := by rfl
theorem mayEnter_of {P : Program} (h : (behindMainWord (wordsSigns P.initOrder.toList)).head? = some "cut".toList) (h1 : P.laysLater = false) (h2 : P.bearsReflect = false) (h3 : P.doorFits [] = true) : P.mayEnter = true := by
  unfold Program.mayEnter
  cases hw : behindMainWord (wordsSigns P.initOrder.toList) with
  | nil => rw [hw] at h; cases h
  | cons c rest =>
    rw [hw] at h
    have hc : c = "cut".toList := Option.some.inj h
    subst hc
    simp only [strip_cut, h1, h2, h3]
    simp
theorem liftsFinal_of {P : Program} (h : (behindMainWord (wordsSigns P.initOrder.toList)).head? = some "cut".toList) : P.liftsFinal = false := by
  unfold Program.liftsFinal Program.headLifts
  cases hw : behindMainWord (wordsSigns P.initOrder.toList) with
  | nil => rw [hw] at h; cases h
  | cons c rest =>
    rw [hw] at h
    have hc : c = "cut".toList := Option.some.inj h
    subst hc
    simp only [strip_cut]
    simp
theorem make_of {P : Program} (h : (behindMainWord (wordsSigns P.initOrder.toList)).head? = some "cut".toList) : P.make = some .cut := by
  unfold Program.make
  cases hw : behindMainWord (wordsSigns P.initOrder.toList) with
  | nil => rw [hw] at h; cases h
  | cons c rest =>
    rw [hw] at h
    have hc : c = "cut".toList := Option.some.inj h
    subst hc
    simp

section
variable {H : Type} {enc : TypeId × Value → H} {P : Program} {w : World} {base : Nat} {held : Bool}

theorem cells_at {a : Addr} {n : Nat} {f : Nat → Value} (h : ∀ i, i < n → w.cell? (a.add i) = some (f i)) : ∀ i, i < n → ∃ b o, some a = some ⟨b, o, none⟩ ∧ w.cell? ⟨b, o + i, none⟩ = some (f i) := by
  intro i hi
  obtain ⟨b, o, spot⟩ := a
  have hs : spot = none := by simpa [Addr.add] using World.cell?_spot (h 0 (by omega))
  subst hs
  exact ⟨b, o, rfl, by have := h i hi; rwa [Go.WideShapes.add_plain] at this⟩

theorem code_of_trod {r : Reach} {b0 : Nat} {t : TypeId} {f0 f1 f2 : Field} {v : Value} {d : DataW H} {p : List MemPlace} (hs : P.underlying t = some (.struct #[f0, f1, f2])) (hi0 : P.underlying f0.type = some (.int .i64)) (hi1 : P.underlying f1.type = some (.int .i64)) (hs2 : P.underlying f2.type = some .string)
    (hone : oneCellFields P #[f0, f1, f2] = true) (hC : P.cellsOf t = 3)
    (hv : Value.okWide P w r b0 t v) (h : DataW.Trod enc P w base (fun _ => true) held t v d p) :
    ∃ (L W : Int) (x : ByteArray), v = .agg #[.int .i64 L, .int .i64 W, .string x] ∧ (-9223372036854775808 ≤ L ∧ L ≤ 9223372036854775807) ∧ (-9223372036854775808 ≤ W ∧ W ≤ 9223372036854775807) ∧ x.size ≤ maxLen := by
  obtain ⟨c0, c1, c2, y0, y1, y2, m, rfl, _, _, h0, h1, h2⟩ := open_agg3 hs hone hC hv h
  obtain ⟨a, e0, _, wa⟩ := DataW.trod_int hi0 h0
  obtain ⟨b, e1, _, wb⟩ := DataW.trod_int hi1 h1
  obtain ⟨x, e2, _, wx⟩ := DataW.trod_string hs2 h2
  simp at e0 e1 e2
  subst e0 e1 e2
  exact ⟨a, b, x, rfl, i64_bounds wa, i64_bounds wb, wx⟩

/-- a list of numbers that came in -/
theorem ints_of_trod {r : Reach} {b0 : Nat} {t e : TypeId} {v : Value} {d : DataW H} {p : List MemPlace} (ht : P.underlying t = some (.slice e)) (he : P.underlying e = some (.int .i64)) (hc : P.cellsOf e = 1)
    (hv : Value.okWide P w r b0 t v) (h : DataW.Trod enc P w base (fun _ => true) held t v d p) : ∃ xs : List Int, ReadsI w v xs ∧ InI64 xs := by
  obtain ⟨fuel, hf⟩ := h
  obtain ⟨a0, l0, c0, rfl⟩ := okWide_slice ht hv
  rcases open_ints ht he hc hf with ⟨hcs, _⟩ | ⟨a, len, cap, zs, hcs, _, hl, hm, hz, _, hcell, hw⟩
  · have hcs : Value.slice a0 l0 c0 = .slice none 0 0 := by simpa [Value.cells] using hcs
    rw [hcs]
    exact ⟨[], ⟨none, 0, rfl, Nat.le_refl _, Nat.zero_le _, fun i hi => by simp at hi⟩, fun x hx => by simp at hx⟩
  · have hcs : Value.slice a0 l0 c0 = .slice (some a) len cap := by simpa [Value.cells] using hcs
    rw [hcs]
    simp only [if_true] at hz
    have hlen : (zs.take len).length = len := by simp; omega
    refine ⟨zs.take len, ⟨some a, cap, by rw [List.length_map, hlen], by rw [List.length_map, hlen]; exact hl, hm, fun i hi => ?_⟩, fun x hx => i64_bounds (hw x (List.mem_of_mem_take hx))⟩
    have hi' : i < len := by rw [List.length_map, hlen] at hi; exact hi
    obtain ⟨b, o, h1, h2⟩ := cells_at hcell i (by omega)
    refine ⟨b, o, h1, ?_⟩
    rw [h2]
    simp [List.getD_eq_getElem?_getD, List.getElem?_eq_getElem (show i < zs.length by omega)]

/-- a list of texts that came in -/
theorem strings_of_trod {r : Reach} {b0 : Nat} {t e : TypeId} {v : Value} {d : DataW H} {p : List MemPlace} (ht : P.underlying t = some (.slice e)) (he : P.underlying e = some .string) (hc : P.cellsOf e = 1)
    (hv : Value.okWide P w r b0 t v) (h : DataW.Trod enc P w base (fun _ => true) held t v d p) : ∃ xs : List ByteArray, ReadsS w v xs ∧ ∀ s ∈ xs, s.size ≤ maxLen := by
  obtain ⟨fuel, hf⟩ := h
  obtain ⟨a0, l0, c0, rfl⟩ := okWide_slice ht hv
  rcases open_strings ht he hc hf with ⟨hcs, _⟩ | ⟨a, len, cap, zs, hcs, _, hl, hm, hz, _, hcell, hw⟩
  · have hcs : Value.slice a0 l0 c0 = .slice none 0 0 := by simpa [Value.cells] using hcs
    rw [hcs]
    exact ⟨[], ⟨none, 0, rfl, Nat.le_refl _, Nat.zero_le _, fun i hi => by simp at hi⟩, fun x hx => by simp at hx⟩
  · have hcs : Value.slice a0 l0 c0 = .slice (some a) len cap := by simpa [Value.cells] using hcs
    rw [hcs]
    simp only [if_true] at hz
    have hlen : (zs.take len).length = len := by simp; omega
    refine ⟨zs.take len, ⟨some a, cap, by rw [List.length_map, hlen], by rw [List.length_map, hlen]; exact hl, hm, fun i hi => ?_⟩, fun x hx => hw x (List.mem_of_mem_take hx)⟩
    have hi' : i < len := by rw [List.length_map, hlen] at hi; exact hi
    obtain ⟨b, o, h1, h2⟩ := cells_at hcell i (by omega)
    refine ⟨b, o, h1, ?_⟩
    rw [h2]
    simp [List.getD_eq_getElem?_getD, List.getElem?_eq_getElem (show i < zs.length by omega)]

/-- rows of numbers that came in -/
theorem rows_of_trod {r : Reach} {b0 : Nat} {t e q : TypeId} {v : Value} {d : DataW H} {p : List MemPlace} (ht : P.underlying t = some (.slice e)) (he : P.underlying e = some (.slice q)) (hq : P.underlying q = some (.int .i64)) (ce : P.cellsOf e = 1) (cq : P.cellsOf q = 1)
    (hv : Value.okWide P w r b0 t v) (h : DataW.Trod enc P w base (fun _ => true) held t v d p) : ∃ m : List (List Int), ReadsRows w v m ∧ ∀ xs ∈ m, InI64 xs := by
  obtain ⟨fuel, hf⟩ := h
  obtain ⟨a0, l0, c0, rfl⟩ := okWide_slice ht hv
  rcases open_int_rows ht he hq ce cq hf with ⟨hcs, _⟩ | ⟨a, len, cap, A, L, C, Z, hcs, _, hl, hm, _, hrow⟩
  · have hcs : Value.slice a0 l0 c0 = .slice none 0 0 := by simpa [Value.cells] using hcs
    rw [hcs]
    exact ⟨[], ⟨[], rfl, ⟨none, 0, rfl, Nat.le_refl _, Nat.zero_le _, fun i hi => by simp at hi⟩, fun i hi => by simp at hi⟩, fun x hx => by simp at hx⟩
  · have hcs : Value.slice a0 l0 c0 = .slice (some a) len cap := by simpa [Value.cells] using hcs
    rw [hcs]
    have hsl : ∀ i, i < cap → w.cell? (a.add i) = some (.slice (A i) (L i) (C i)) := fun i hi => (hrow i hi).1
    refine ⟨(List.range len).map fun i => (Z i).take (L i), ⟨(List.range len).map fun i => .slice (A i) (L i) (C i), by simp, ⟨some a, cap, by simp, by simpa using hl, hm, fun i hi => ?_⟩, fun i hi => ?_⟩, fun xs hxs => ?_⟩
    · have hi' : i < len := by simpa using hi
      obtain ⟨b, o, h1, h2⟩ := cells_at hsl i (by omega)
      exact ⟨b, o, h1, by rw [h2]; simp⟩
    · have hi' : i < len := by simpa using hi
      obtain ⟨_, r1, r2, r3, r4, r5, r6⟩ := hrow i (by omega)
      refine ⟨.slice (A i) (L i) (C i), by simp [hi'], ?_⟩
      have hlen : ((Z i).take (L i)).length = L i := by simp; omega
      have e1 : ((List.range len).map fun i => (Z i).take (L i))[i]'hi = (Z i).take (L i) := by simp
      rw [e1]
      refine ⟨A i, C i, by rw [List.length_map, hlen], by rw [List.length_map, hlen]; exact r1, r2, fun j hj => ?_⟩
      have hj' : j < L i := by rw [List.length_map, hlen] at hj; exact hj
      cases hA : A i with
      | none => have := r5 hA; omega
      | some a' =>
        obtain ⟨_, hc⟩ := r6 a' hA
        obtain ⟨b, o, h1, h2⟩ := cells_at hc j (by omega)
        refine ⟨b, o, h1, ?_⟩
        rw [h2]
        simp [List.getD_eq_getElem?_getD, List.getElem?_eq_getElem (show j < (Z i).length by omega)]
    · obtain ⟨i, hi, rfl⟩ := List.mem_map.1 hxs
      have hi' := List.mem_range.1 hi
      obtain ⟨_, r1, r2, r3, r4, _⟩ := hrow i (by omega)
      exact fun x hx => i64_bounds (r4 x (List.mem_of_mem_take hx))

theorem strings_of_cell {n : Nat} {t e : TypeId} {v : Value} {y : DataW H × List MemPlace} (ht : P.underlying t = some (.slice e)) (he : P.underlying e = some .string) (hc : P.cellsOf e = 1)
    (hf : DataW.trod enc P w base (fun _ => true) held n t [v] = some y) : ∃ xs : List ByteArray, ReadsS w v xs ∧ ∀ s ∈ xs, s.size ≤ maxLen := by
  rcases open_strings ht he hc hf with ⟨hcs, _⟩ | ⟨a, len, cap, zs, hcs, _, hl, hm, hz, _, hcell, hw⟩
  · have hcs : v = .slice none 0 0 := by simpa using hcs
    rw [hcs]
    exact ⟨[], ⟨none, 0, rfl, Nat.le_refl _, Nat.zero_le _, fun i hi => by simp at hi⟩, fun x hx => by simp at hx⟩
  · have hcs : v = .slice (some a) len cap := by simpa using hcs
    rw [hcs]
    simp only [if_true] at hz
    have hlen : (zs.take len).length = len := by simp; omega
    refine ⟨zs.take len, ⟨some a, cap, by rw [List.length_map, hlen], by rw [List.length_map, hlen]; exact hl, hm, fun i hi => ?_⟩, fun x hx => hw x (List.mem_of_mem_take hx)⟩
    have hi' : i < len := by rw [List.length_map, hlen] at hi; exact hi
    obtain ⟨b, o, h1, h2⟩ := cells_at hcell i (by omega)
    refine ⟨b, o, h1, ?_⟩
    rw [h2]
    simp [List.getD_eq_getElem?_getD, List.getElem?_eq_getElem (show i < zs.length by omega)]

/-- a shift that came in -/
theorem shift_of_trod {r : Reach} {b0 : Nat} {t e : TypeId} {f0 f1 : Field} {v : Value} {d : DataW H} {p : List MemPlace} (hs : P.underlying t = some (.struct #[f0, f1])) (hi0 : P.underlying f0.type = some (.int .i64)) (ht : P.underlying f1.type = some (.slice e)) (he : P.underlying e = some .string)
    (hone : oneCellFields P #[f0, f1] = true) (hC : P.cellsOf t = 2) (hc : P.cellsOf e = 1)
    (hv : Value.okWide P w r b0 t v) (h : DataW.Trod enc P w base (fun _ => true) held t v d p) :
    ∃ (L : Int) (u : Value) (xs : List ByteArray), v = .agg #[.int .i64 L, u] ∧ (-9223372036854775808 ≤ L ∧ L ≤ 9223372036854775807) ∧ ReadsS w u xs ∧ ∀ s ∈ xs, s.size ≤ maxLen := by
  obtain ⟨c0, u, y0, y1, m, rfl, _, _, h0, h1⟩ := open_agg2 hs hone hC hv h
  obtain ⟨a, e0, _, wa⟩ := DataW.trod_int hi0 h0
  simp at e0
  subst e0
  obtain ⟨xs, hx, hm⟩ := strings_of_cell ht he hc h1
  exact ⟨a, u, xs, rfl, i64_bounds wa, hx, hm⟩

/-- arcs: three numbers each -/
def ReadsArcs (w : World) (v : Value) (as : List (Int × Int × Int)) : Prop :=
  ∃ (a : Option Addr) (cap : Nat), v = .slice a as.length cap ∧ as.length ≤ cap ∧ cap ≤ maxLen ∧ ∀ i (h : i < as.length), ∃ b o, a = some ⟨b, o, none⟩ ∧ w.cell? ⟨b, o + i * 3, none⟩ = some (.int .i64 as[i].1) ∧ w.cell? ⟨b, o + i * 3 + 1, none⟩ = some (.int .i64 as[i].2.1) ∧ w.cell? ⟨b, o + i * 3 + 2, none⟩ = some (.int .i64 as[i].2.2)
theorem ReadsArcs.ext {w w' : World} {v : Value} {as : List (Int × Int × Int)} (h : ReadsArcs w v as) (hx : Ext w w') : ReadsArcs w' v as := by
  obtain ⟨a, cap, hv, h1, h2, h3⟩ := h
  refine ⟨a, cap, hv, h1, h2, fun i hi => ?_⟩
  obtain ⟨b, o, ha, k0, k1, k2⟩ := h3 i hi
  exact ⟨b, o, ha, hx.cell_some k0, hx.cell_some k1, hx.cell_some k2⟩
def ArcsFit (as : List (Int × Int × Int)) : Prop := ∀ x ∈ as, InI64 [x.1, x.2.1, x.2.2]

theorem arcs_of_cell {n : Nat} {t e : TypeId} {g0 g1 g2 : Field} {v : Value} {y : DataW H × List MemPlace} (ht : P.underlying t = some (.slice e)) (he : P.underlying e = some (.struct #[g0, g1, g2])) (hi0 : P.underlying g0.type = some (.int .i64)) (hi1 : P.underlying g1.type = some (.int .i64)) (hi2 : P.underlying g2.type = some (.int .i64))
    (ce : P.cellsOf e = 3) (o0 : g0.offset = 0) (o1 : g1.offset = 1) (o2 : g2.offset = 2) (c0 : P.cellsOf g0.type = 1) (c1 : P.cellsOf g1.type = 1) (c2 : P.cellsOf g2.type = 1)
    (hf : DataW.trod enc P w base (fun _ => true) held n t [v] = some y) : ∃ as : List (Int × Int × Int), ReadsArcs w v as ∧ ArcsFit as := by
  rcases open_slice ht hf with ⟨hcs, _⟩ | ⟨a, len, cap, m, k, D, Pl, hcs, _, hl, hm, hmm, _, hrow⟩
  · have hcs : v = .slice none 0 0 := by simpa using hcs
    rw [hcs]
    exact ⟨[], ⟨none, 0, rfl, Nat.le_refl _, Nat.zero_le _, fun i hi => by simp at hi⟩, fun x hx => by simp at hx⟩
  · have hcs : v = .slice (some a) len cap := by simpa using hcs
    rw [hcs]
    simp only [if_true] at hmm
    subst hmm
    have each : ∀ i, i < m → ∃ x : Int × Int × Int, InI64 [x.1, x.2.1, x.2.2] ∧ w.cell? (a.add (i * 3)) = some (.int .i64 x.1) ∧ w.cell? ((a.add (i * 3)).add 1) = some (.int .i64 x.2.1) ∧ w.cell? ((a.add (i * 3)).add 2) = some (.int .i64 x.2.2) := by
      intro i hi
      obtain ⟨cs', h1, h2⟩ := hrow i hi
      rw [ce] at h1
      obtain ⟨y0, y1, y2, k', _, hlen, h3, h4, h5⟩ := trod_struct3 he h2
      rw [ce] at hlen
      match cs', hlen with
      | [x0, x1, x2], _ =>
        rw [o0, c0] at h3
        rw [o1, c1] at h4
        rw [o2, c2] at h5
        obtain ⟨n0, e0, _, w0⟩ := DataW.trod_int hi0 h3
        obtain ⟨n1, e1, _, w1⟩ := DataW.trod_int hi1 h4
        obtain ⟨n2, e2, _, w2⟩ := DataW.trod_int hi2 h5
        simp at e0 e1 e2
        subst e0 e1 e2
        have hc := (World.cells?_some h1).2.2
        refine ⟨(n0, n1, n2), fun x hx => ?_, by simpa [Addr.add] using hc 0 (by omega), by simpa using hc 1 (by omega), by simpa using hc 2 (by omega)⟩
        simp at hx
        rcases hx with rfl | rfl | rfl
        · exact i64_bounds w0
        · exact i64_bounds w1
        · exact i64_bounds w2
    obtain ⟨X, hX⟩ := choose_lt each
    refine ⟨(List.range len).map X, ⟨some a, m, by simp, by simpa using hl, hm, fun i hi => ?_⟩, fun x hx => ?_⟩
    · have hi' : i < len := by simpa using hi
      obtain ⟨_, h1, h2, h3⟩ := hX i (by omega)
      obtain ⟨_, z1, _⟩ := hX 0 (by omega)
      obtain ⟨b, o, spot⟩ := a
      have hs : spot = none := by simpa [Addr.add] using World.cell?_spot z1
      subst hs
      refine ⟨b, o, rfl, ?_⟩
      simp only [Go.WideShapes.add_plain] at h1 h2 h3
      simpa using ⟨h1, h2, h3⟩
    · obtain ⟨i, hi, rfl⟩ := List.mem_map.1 hx
      exact (hX i (by have := List.mem_range.1 hi; omega)).1

/-- a labelled graph that came in -/
theorem labels_of_trod {r : Reach} {b0 : Nat} {t e : TypeId} {f0 f1 f2 g0 g1 g2 : Field} {v : Value} {d : DataW H} {p : List MemPlace} (hs : P.underlying t = some (.struct #[f0, f1, f2])) (hj0 : P.underlying f0.type = some (.int .i64)) (hj1 : P.underlying f1.type = some (.int .i64))
    (ht : P.underlying f2.type = some (.slice e)) (he : P.underlying e = some (.struct #[g0, g1, g2])) (hi0 : P.underlying g0.type = some (.int .i64)) (hi1 : P.underlying g1.type = some (.int .i64)) (hi2 : P.underlying g2.type = some (.int .i64))
    (hone : oneCellFields P #[f0, f1, f2] = true) (hC : P.cellsOf t = 3)
    (ce : P.cellsOf e = 3) (o0 : g0.offset = 0) (o1 : g1.offset = 1) (o2 : g2.offset = 2) (c0 : P.cellsOf g0.type = 1) (c1 : P.cellsOf g1.type = 1) (c2 : P.cellsOf g2.type = 1)
    (hv : Value.okWide P w r b0 t v) (h : DataW.Trod enc P w base (fun _ => true) held t v d p) :
    ∃ (L S : Int) (u : Value) (as : List (Int × Int × Int)), v = .agg #[.int .i64 L, .int .i64 S, u] ∧ (-9223372036854775808 ≤ L ∧ L ≤ 9223372036854775807) ∧ (-9223372036854775808 ≤ S ∧ S ≤ 9223372036854775807) ∧ ReadsArcs w u as ∧ ArcsFit as := by
  obtain ⟨k0, k1, u, y0, y1, y2, m, rfl, _, _, h0, h1, h2⟩ := open_agg3 hs hone hC hv h
  obtain ⟨a, e0, _, wa⟩ := DataW.trod_int hj0 h0
  obtain ⟨b, e1, _, wb⟩ := DataW.trod_int hj1 h1
  simp at e0 e1
  subst e0 e1
  obtain ⟨as, ha, hm⟩ := arcs_of_cell ht he hi0 hi1 hi2 ce o0 o1 o2 c0 c1 c2 h2
  exact ⟨a, b, u, as, rfl, i64_bounds wa, i64_bounds wb, ha, hm⟩

/-- bytes that came in -/
def ReadsB (w : World) (v : Value) (xs : List UInt8) : Prop := Reads w v (xs.map fun c => .int .u8 (c.toNat : Int))
theorem ReadsB.ext {w w' : World} {v : Value} {xs : List UInt8} (h : ReadsB w v xs) (hx : Ext w w') : ReadsB w' v xs := Reads.ext h hx
theorem bytes_of_trod {r : Reach} {b0 : Nat} {t e : TypeId} {v : Value} {d : DataW H} {p : List MemPlace} (ht : P.underlying t = some (.slice e)) (he : P.underlying e = some (.int .u8)) (hc : P.cellsOf e = 1)
    (hv : Value.okWide P w r b0 t v) (h : DataW.Trod enc P w base (fun _ => true) held t v d p) : ∃ xs : List UInt8, ReadsB w v xs := by
  obtain ⟨fuel, hf⟩ := h
  obtain ⟨a0, l0, c0, rfl⟩ := okWide_slice ht hv
  rcases open_ints ht he hc hf with ⟨hcs, _⟩ | ⟨a, len, cap, zs, hcs, _, hl, hm, hz, _, hcell, hw⟩
  · have hcs : Value.slice a0 l0 c0 = .slice none 0 0 := by simpa [Value.cells] using hcs
    rw [hcs]
    exact ⟨[], ⟨none, 0, rfl, Nat.le_refl _, Nat.zero_le _, fun i hi => by simp at hi⟩⟩
  · have hcs : Value.slice a0 l0 c0 = .slice (some a) len cap := by simpa [Value.cells] using hcs
    rw [hcs]
    simp only [if_true] at hz
    have hlen : ((zs.take len).map fun n => UInt8.ofNat n.toNat).length = len := by simp; omega
    refine ⟨(zs.take len).map fun n => UInt8.ofNat n.toNat, ⟨some a, cap, by rw [List.length_map, hlen], by rw [List.length_map, hlen]; exact hl, hm, fun i hi => ?_⟩⟩
    have hi' : i < len := by rw [List.length_map, hlen] at hi; exact hi
    obtain ⟨b, o, h1, h2⟩ := cells_at hcell i (by omega)
    refine ⟨b, o, h1, ?_⟩
    rw [h2]
    have hi2 : i < zs.length := by omega
    have hwf := hw zs[i] (List.getElem_mem hi2)
    simp only [Lit.wf, IntKind.min, IntKind.max, IntKind.signed, IntKind.bits, Bool.and_eq_true, decide_eq_true_eq, Bool.false_eq_true, if_false] at hwf
    have h3 : ((UInt8.ofNat zs[i].toNat).toNat : Int) = zs[i] := by
      have : (UInt8.ofNat zs[i].toNat).toNat = zs[i].toNat % 256 := rfl
      omega
    simp only [List.getD_eq_getElem?_getD, List.getElem?_eq_getElem hi2, Option.getD_some, List.getElem_map, List.getElem_take, h3]
end
end Go

/- Rows that a call itself makes: what they read as, a store, a make. No dump is imported. -/
namespace Go
open Go.RowKit

/-- A row of one-cell elements, made by the call. -/
def Own (w : World) (B : Nat) (E : TypeId) (v : Value) (fs : List Value) : Prop := w.ownsRow B E 1 v fs.length fs

theorem Own.nil (w : World) (B : Nat) (E : TypeId) : Own w B E (.slice none 0 0) [] := World.ownsRow_nil w B E 1

theorem Own.shape {w : World} {B : Nat} {E : TypeId} {v : Value} {fs : List Value} (h : Own w B E v fs) :
    (v = .slice none 0 0 ∧ fs = []) ∨ ∃ g cap, v = .slice (some ⟨g, 0, none⟩) fs.length cap ∧ B ≤ g ∧ g < w.heap.size ∧ fs.length ≤ cap ∧ cap ≤ maxLen := by
  rcases h.2 with ⟨hv, hn⟩ | ⟨g, cap, cur, hv, hb, hg, h1, h2, _⟩
  · exact .inl ⟨hv, List.eq_nil_of_length_eq_zero hn⟩
  · exact .inr ⟨g, cap, hv, hb, (Array.getElem?_eq_some_iff.1 hg).1, h1, h2⟩

theorem Own.cell {w : World} {B : Nat} {E : TypeId} {g n cap : Nat} {fs : List Value} (h : Own w B E (.slice (some ⟨g, 0, none⟩) n cap) fs) (j : Nat) (hj : j < fs.length) : w.cell? ⟨g, j, none⟩ = some fs[j] := by
  rcases h.shape with ⟨hv, _⟩ | ⟨g', cap', hv, _⟩
  · cases hv
  · injection hv with h1 h2 h3
    subst h2
    have := World.ownsRow.cellAt h j (by simpa using hj)
    rw [this, List.getElem?_eq_getElem hj]

theorem Own.len {w : World} {B : Nat} {E : TypeId} {a : Option Addr} {n cap : Nat} {fs : List Value} (h : Own w B E (.slice a n cap) fs) : n = fs.length := by
  rcases h.shape with ⟨hv, hf⟩ | ⟨g', cap', hv, _⟩
  · injection hv with h1 h2 h3; subst hf; exact h2
  · injection hv

theorem Own.frozen {w : World} {B : Nat} {E : TypeId} {g n cap : Nat} {fs : List Value} (h : Own w B E (.slice (some ⟨g, 0, none⟩) n cap) fs) (j : Nat) : w.frozen? ⟨g, j, none⟩ = false := by
  have hn := h.len
  subst hn
  exact World.ownsRow.frozenAt h j

theorem Own.reads {w : World} {B : Nat} {E : TypeId} {v : Value} {fs : List Value} (h : Own w B E v fs) : Reads w v fs := by
  rcases h.shape with ⟨hv, hf⟩ | ⟨g, cap, hv, _, _, h1, h2⟩
  · subst hv; subst hf
    exact ⟨none, 0, rfl, by simp, by simp [maxLen], fun i hi => by simp at hi⟩
  · subst hv
    exact ⟨_, cap, rfl, h1, h2, fun i hi => ⟨g, 0, rfl, by rw [Nat.zero_add]; exact h.cell i hi⟩⟩

theorem Own.ext {w w' : World} {B : Nat} {E : TypeId} {v : Value} {fs : List Value} (h : Own w B E v fs) (hx : Ext w w') : Own w' B E v fs := by
  refine ⟨h.1, ?_⟩
  rcases h.2 with hn | ⟨g, cap, cur, hv, hb, hg, rest⟩
  · exact .inl hn
  · exact .inr ⟨g, cap, cur, hv, hb, by rw [Below.block hx g (Array.getElem?_eq_some_iff.1 hg).1]; exact hg, rest⟩

/-- A store into the row. -/
theorem Own.store {w : World} {B : Nat} {E : TypeId} {g n cap : Nat} {fs : List Value} (h : Own w B E (.slice (some ⟨g, 0, none⟩) n cap) fs) (j : Nat) (u : Value) : Own (w.setCell ⟨g, j, none⟩ u) B E (.slice (some ⟨g, 0, none⟩) n cap) (fs.set j u) := by
  have hn := h.len
  subst hn
  have := (World.ownsRow.stored h j u).1
  unfold Own
  rw [List.length_set]
  exact this

/-- .. and nothing that was there before has turned. -/
theorem Ext.setCell {a w : World} (h : Ext a w) {p : Addr} (hp : a.heap.size ≤ p.block) (u : Value) : Ext a (w.setCell p u) := Below.setCell h hp u

theorem Ext.size {a w : World} (h : Ext a w) : a.heap.size ≤ w.heap.size := Below.size h

theorem Ext.grown {a w w' : World} {row : Option Nat} (h : Ext a w) (hg : w.grownBy w' row) (hr : ∀ k, row = some k → a.heap.size ≤ k) : Ext a w' := Below.grown h hg (Ext.size h) hr

/-- Lowering the base. -/
theorem Own.mono {w : World} {B B' : Nat} {E : TypeId} {v : Value} {fs : List Value} (h : Own w B E v fs) (hB : B' ≤ B) : Own w B' E v fs := by
  refine ⟨h.1, ?_⟩
  rcases h.2 with hn | ⟨g, cap, cur, hv, hb, rest⟩
  · exact .inl hn
  · exact .inr ⟨g, cap, cur, hv, by omega, rest⟩

/-- A row that make has just laid. -/
theorem Own.made (w : World) (E : TypeId) (z : Value) (n : Nat) (hn : n ≤ maxLen) : Own (w.alloc (.cells (madeCells #[z] n) E)) w.heap.size E (.slice (some ⟨w.heap.size, 0, none⟩) n n) (List.replicate n z) := by
  have := World.ownsRow_lit (base := w.heap.size) (e := E) (size := 1) w (madeCells #[z] n) n (Nat.le_refl _) hn (by simp [madeCells])
  rw [toList_madeCells_one] at this
  unfold Own
  rw [List.length_replicate]
  exact this

/-- A row written out. -/
theorem Own.lit (w : World) (E : TypeId) (cs : List Value) (hn : cs.length ≤ maxLen) : Own (w.alloc (.cells cs.toArray E)) w.heap.size E (.slice (some ⟨w.heap.size, 0, none⟩) cs.length cs.length) cs := by
  have := World.ownsRow_lit (base := w.heap.size) (e := E) (size := 1) w cs.toArray cs.length (Nat.le_refl _) hn (by simp)
  exact this

/-- bytes as cells -/
def bcells (l : List UInt8) : List Value := l.map fun b => .int .u8 (b.toNat : Int)

/-- 'string(b)' of a row of bytes -/
theorem run_convert_own {P : Program} {w : World} {B : Nat} {E src dst : TypeId} {v : Value} {l : List UInt8} (hs : P.underlying src = some (.slice E)) (he : P.underlying E = some (.int .u8)) (hd : P.underlying dst = some .string)
    (h : Own w B E v (bcells l)) : (convert src dst v).run P w = .ok (.string ⟨l.toArray⟩) w := by
  rcases h.shape with ⟨hv, hf⟩ | ⟨g, cap, hv, _⟩
  · subst hv
    have : l = [] := by simpa [bcells] using hf
    subst this
    exact run_convert_bytes_nil w src E hs he 0 0 dst hd
  · subst hv
    have hl : (bcells l).length = l.length := by simp [bcells]
    rw [hl]
    refine run_convert_bytes_back w src dst E ⟨g, 0, none⟩ cap l hs he hd fun j hj => ?_
    have := h.cell j (by rw [hl]; exact hj)
    rw [show (⟨g, 0, none⟩ : Addr).add j = ⟨g, j, none⟩ by unfold Addr.add; split <;> simp_all]
    simpa [bcells] using this

/-- Where a row lies behind an append: where it lay, or in a new block. -/
def Moved (w : World) (v v' : Value) : Prop := v'.ownBlock = v.ownBlock ∨ ∀ k, v'.ownBlock = some k → w.heap.size ≤ k

theorem run_append_one {P : Program} {w : World} (t ty E : TypeId) (z : Value) (bytes : Nat) (ht : P.underlying t = some (.slice E)) (hinfo : (P.info? E).map (fun i => (i.zero, i.size, i.bytes)) = some (some z, 1, bytes)) (hz1 : z.cells = #[z])
    (B : Nat) (v : Value) (fs : List Value) (hown : Own w B E v fs) (ad : Addr) (c : Nat) (u : Value) (hu : w.cell? ad = some u) (h1 : u.oneCell' = true)
    (hlen : fs.length + 1 ≤ maxLen) (hbytes : (fs.length + 1) * bytes ≤ 140737488355328) (hbase : B ≤ w.heap.size) :
    ∃ v' w', (Builtin.append_ #[t, t] ty #[v, .slice (some ad) 1 c]).run P w = .ok v' w' ∧ Own w' B E v' (fs ++ [u]) ∧ w.grownBy w' v.ownBlock ∧ Moved w v v' := by
  obtain ⟨i, hi, hzz⟩ := Option.map_eq_some_iff.1 hinfo
  simp only [Prod.mk.injEq] at hzz
  obtain ⟨hz, hsz, hb⟩ := hzz
  have hnews : ∀ (j : Nat) (u' : Value), [u][j]? = some u' → w.cell? (ad.add j) = some u' := by
    intro j u' hj
    match j, hj with
    | 0, hj => simp at hj; subst hj; simpa [Addr.add] using hu
  have hlen63 : fs.length + 1 ≤ 9223372036854775807 := by simp only [maxLen] at hlen; omega
  -- a new block
  have fresh : ∀ old, (w.drew.alloc (.cells (fs.toArray ++ [u].toArray ++ Builtin.zeroCells z.cells (grownCap w (fs.length + 1) old E - (fs.length + 1))) E)).ownsRow B E 1 (.slice (some ⟨w.heap.size, 0, none⟩) (fs.length + 1) (grownCap w (fs.length + 1) old E)) (fs.length + 1) (fs ++ [u]) := by
    intro old
    have hge := grownCap_ge w (fs.length + 1) old E
    refine ⟨by simp, .inr ⟨w.heap.size, _, _, rfl, hbase, heap_alloc_new w.drew _, hge, grownCap_le_maxLen w (fs.length + 1) old E hlen, ?_, ?_⟩⟩
    · simp only [Array.size_append, List.size_toArray, size_zeroCells, hz1, List.length_cons, List.length_nil]
      show fs.length + 1 + (grownCap w (fs.length + 1) old E - (fs.length + 1)) * 1 = _
      omega
    · simp only [Array.toList_append, Nat.mul_one]
      rw [show fs.length + 1 = (fs ++ [u]).length by simp]
      exact List.take_left
  have fgrown : ∀ (old : Nat) (row : Option Nat), w.grownBy (w.drew.alloc (.cells (fs.toArray ++ [u].toArray ++ Builtin.zeroCells z.cells (grownCap w (fs.length + 1) old E - (fs.length + 1))) E)) row :=
    fun old row => ⟨rfl, rfl, rfl, by simp, fun k hk _ => Below.heap_alloc w.drew _ k hk⟩
  rcases hown.2 with ⟨hv, hn⟩ | ⟨g, cap, cur, hv, hbg, hg, hnc, hcm, hcs, htake⟩
  · have hf : fs = [] := List.eq_nil_of_length_eq_zero hn
    subst hf; subst hv
    have hr := run_append_nil (P := P) w t ty E i z ht hi hz ad 1 c [u] (by simp [hsz]) hnews (by omega) (by omega) (by rw [hb]; simp only [List.length_nil, Nat.zero_add] at hbytes; omega)
    have h2 := fresh 0
    have h3 := fgrown 0 (Value.ownBlock (.slice none 0 0))
    simp only [List.length_nil, Nat.zero_add, List.nil_append, Array.empty_append] at h2 h3
    exact ⟨_, _, hr, h2, h3, .inr fun k hk => by simp [Value.ownBlock] at hk; omega⟩
  · subst hv
    by_cases hroom : fs.length + 1 ≤ cap
    · have hr := run_append_room (P := P) w t ty E i ht hi g fs.length cap cur hg ad 1 c [u] (by simp [hsz]) hnews (by intro u' hu'; simp at hu'; subst hu'; exact h1) hroom (by rw [hsz, hcs]; simp; omega)
      rw [hsz] at hr
      refine ⟨_, _, hr, ?_, ⟨rfl, rfl, rfl, by simp, fun k _ hk => setRow_other w g k _ (fun e => hk (by simp [Value.ownBlock, e]))⟩, .inl rfl⟩
      unfold Own
      rw [List.length_append]
      refine ⟨by simp, .inr ⟨g, cap, _, rfl, hbg, setRow_heap w g cur _ E _ hg, hroom, hcm, ?_, ?_⟩⟩
      · simp only [List.size_toArray, List.length_append, List.length_take, List.length_drop, Array.length_toList, List.length_singleton]
        omega
      · rw [htake]
        show List.take ((fs.length + 1) * 1) (fs ++ [u] ++ _) = _
        rw [show (fs.length + 1) * 1 = (fs ++ [u]).length by simp]
        exact List.take_left
    · have holds : ∀ (j : Nat) (u' : Value), fs[j]? = some u' → w.cell? ((⟨g, 0, none⟩ : Addr).add j) = some u' := hown.cells (g := g) rfl
      have hr := run_append_grow (P := P) w t ty E i z ht hi hz ⟨g, 0, none⟩ fs.length cap fs (by simp [hsz]) holds ad 1 c [u] (by simp [hsz]) hnews (by omega) (by omega) (by rw [hb]; exact growslice_fits (by omega) hbytes)
      refine ⟨_, _, hr, ?_, fgrown cap _, .inr fun k hk => by simp [Value.ownBlock] at hk; omega⟩
      unfold Own
      rw [List.length_append]
      exact fresh cap

/-- 'out = append(out, x)' of one element on a row of the call's own: x stands in a new cell. -/
theorem wpList_append_one {P : Program} {w : World} {ops : Array Oper} {rest : List Oper} {o : Oper} {a : Act} {Q : Exit → Act → World → Prop} (hgd : o.guard = none) (s x : Operand) (t : TypeId)
    (ho : o.op = .call { callee := .builtin .append, args := #[s, x], argTypes := #[t, t] })
    (E : TypeId) (z : Value) (bytes : Nat) (ht : P.underlying t = some (.slice E)) (hinfo : (P.info? E).map (fun i => (i.zero, i.size, i.bytes)) = some (some z, 1, bytes)) (hz1 : z.cells = #[z])
    (B : Nat) (v : Value) (fs : List Value) (hs : a.eval s = v) (hown : Own w B E v fs)
    (g : Nat) (u : Value) (hx : a.eval x = .slice (some ⟨g, 0, none⟩) 1 1) (hu : w.cell? ⟨g, 0, none⟩ = some u) (h1 : u.oneCell' = true)
    (hlen : fs.length + 1 ≤ maxLen) (hbytes : (fs.length + 1) * bytes ≤ 140737488355328)
    (W0 : World) (hB : W0.heap.size = B) (hext : Ext W0 w)
    (h : ∀ v' w', Own w' B E v' (fs ++ [u]) → Ext W0 w' → w.grownBy w' v.ownBlock ∧ Moved w v v' → wpList P ops Q rest (a.put o.dst v') w') : wpList P ops Q (o :: rest) a w := by
  obtain ⟨v', w', hr, h2, h3, h4⟩ := run_append_one (P := P) t o.type E z bytes ht hinfo hz1 B v fs hown ⟨g, 0, none⟩ 1 u hu h1 hlen hbytes (by rw [← hB]; exact hext.size)
  refine wpList_plain hgd fun K hK' => ?_
  unfold Oper.wp execOp
  simp only [ho, resolve, invoke, builtin, Sem.run_bind, Sem.run_pure, Result.andThen_ok, List.map_toArray, List.map_cons, List.map_nil, hs, hx, hr]
  refine hK' _ _ (h v' w' h2 (hext.grown h3 fun k hk => ?_) ⟨h3, h4⟩)
  have := (World.ownsRow.lt hown k hk).1
  omega

/-- Since the world W, in which the row was v0, memory has grown, and of what was there the row v0 alone was written. -/
structure Grew (W : World) (v0 : Value) (wr : World) (v : Value) : Prop where
  grown : W.grownBy wr v0.ownBlock
  blk : v.ownBlock = v0.ownBlock ∨ ∀ k, v.ownBlock = some k → W.heap.size ≤ k

theorem Grew.refl (W : World) (v : Value) : Grew W v W v := ⟨⟨rfl, rfl, rfl, Nat.le_refl _, fun _ _ _ => rfl⟩, .inl rfl⟩
theorem Grew.ext {W : World} {v0 : Value} {wr w' : World} {v : Value} (h : Grew W v0 wr v) (hx : Ext wr w') : Grew W v0 w' v :=
  ⟨⟨(Below.os hx).trans h.grown.os, (Below.tape hx).trans h.grown.tape, (Below.output hx).trans h.grown.output, Nat.le_trans h.grown.size hx.size, fun k hk hne => by
    rw [Below.block hx k (Nat.lt_of_lt_of_le hk h.grown.size)]
    exact h.grown.block k hk hne⟩, h.blk⟩
theorem Grew.step {W : World} {v0 : Value} {wr w' : World} {v v' : Value} (h : Grew W v0 wr v) (hg : wr.grownBy w' v.ownBlock ∧ Moved wr v v') : Grew W v0 w' v' := by
  obtain ⟨hg, hm⟩ := hg
  refine ⟨⟨hg.os.trans h.grown.os, hg.tape.trans h.grown.tape, hg.output.trans h.grown.output, Nat.le_trans h.grown.size hg.size, fun k hk hne => ?_⟩, ?_⟩
  · rw [hg.block k (Nat.lt_of_lt_of_le hk h.grown.size) ?_]
    · exact h.grown.block k hk hne
    · rcases h.blk with hb | hb
      · rw [hb]; exact hne
      · intro e
        have := hb k e.symm
        omega
  · rcases hm with hm | hm
    · rw [hm]; exact h.blk
    · exact .inr fun k hk => Nat.le_trans h.grown.size (hm k hk)
theorem Grew.cell {W : World} {v0 : Value} {wr : World} {v : Value} (h : Grew W v0 wr v) {a : Addr} {u : Value} (hc : W.cell? a = some u) (hne : v0.ownBlock ≠ some a.block) : wr.cell? a = some u :=
  (World.cell?_of_block (h.grown.block a.block (World.block_lt_of_cell? W a hc) (Ne.symm hne))).trans hc
theorem Grew.frozen {W : World} {v0 : Value} {wr : World} {v : Value} (h : Grew W v0 wr v) {a : Addr} (hb : a.block < W.heap.size) (hne : v0.ownBlock ≠ some a.block) : wr.frozen? a = W.frozen? a :=
  World.frozen?_of_block (h.grown.block a.block hb (Ne.symm hne))
theorem Grew.own {W : World} {v0 : Value} {wr : World} {v : Value} (h : Grew W v0 wr v) {B : Nat} {E : TypeId} {u : Value} {fs : List Value} (ho : Own W B E u fs) (hne : ∀ k, u.ownBlock = some k → v0.ownBlock ≠ some k) : Own wr B E u fs := by
  refine World.ownsRow.kept ho h.grown ?_
  cases hu : u.ownBlock with
  | none => exact .inl rfl
  | some k => exact .inr fun e => hne k hu e.symm
theorem Grew.reads {W : World} {v0 : Value} {wr : World} {v : Value} (h : Grew W v0 wr v) {u : Value} {fs : List Value} (ho : Reads W u fs) (hne : ∀ k, u.ownBlock = some k → v0.ownBlock ≠ some k) : Reads wr u fs := by
  obtain ⟨a, cap, hv, h1, h2, h3⟩ := ho
  refine ⟨a, cap, hv, h1, h2, fun i hi => ?_⟩
  obtain ⟨b, o, ha, hc⟩ := h3 i hi
  exact ⟨b, o, ha, h.cell hc (hne b (by rw [hv, ha]; rfl))⟩

/-! ### One block alone is written -/
theorem GB.refl (W : World) (row : Option Nat) : W.grownBy W row := ⟨rfl, rfl, rfl, Nat.le_refl _, fun _ _ _ => rfl⟩
theorem GB.ext {W wr w' : World} {row : Option Nat} (h : W.grownBy wr row) (hx : Ext wr w') : W.grownBy w' row :=
  ⟨(Below.os hx).trans h.os, (Below.tape hx).trans h.tape, (Below.output hx).trans h.output, Nat.le_trans h.size hx.size, fun k hk hne => by
    rw [Below.block hx k (Nat.lt_of_lt_of_le hk h.size)]
    exact h.block k hk hne⟩
theorem GB.setCell {W wr : World} {b : Nat} (h : W.grownBy wr (some b)) (o : Nat) (u : Value) : W.grownBy (wr.setCell ⟨b, o, none⟩ u) (some b) :=
  ⟨h.os, h.tape, h.output, by simpa [World.setCell] using h.size, fun k hk hne => by
    rw [Below.heap_setCell _ _ _ _ (fun e => hne (by rw [e]))]
    exact h.block k hk hne⟩
theorem GB.cell {W wr : World} {row : Option Nat} (h : W.grownBy wr row) {a : Addr} {u : Value} (hc : W.cell? a = some u) (hne : row ≠ some a.block) : wr.cell? a = some u :=
  (World.cell?_of_block (h.block a.block (World.block_lt_of_cell? W a hc) (Ne.symm hne))).trans hc
theorem GB.frozen {W wr : World} {row : Option Nat} (h : W.grownBy wr row) {a : Addr} (hb : a.block < W.heap.size) (hne : row ≠ some a.block) : wr.frozen? a = W.frozen? a :=
  World.frozen?_of_block (h.block a.block hb (Ne.symm hne))
theorem GB.own {W wr : World} {row : Option Nat} (h : W.grownBy wr row) {B : Nat} {E : TypeId} {u : Value} {fs : List Value} (ho : Own W B E u fs) (hne : ∀ k, u.ownBlock = some k → row ≠ some k) : Own wr B E u fs := by
  refine World.ownsRow.kept ho h ?_
  cases hu : u.ownBlock with
  | none => exact .inl rfl
  | some k => exact .inr fun e => hne k hu e.symm
end Go

/- Tables of numbers that a call itself makes, each row in a block of its own; what may be written. No dump is imported. -/
namespace Go
open Go.RowKit

/-- numbers as cells -/
def icells (xs : List Int) : List Value := xs.map (.int .i64)
theorem icells_length (xs : List Int) : (icells xs).length = xs.length := by simp [icells]
theorem icells_at (xs : List Int) (j : Nat) (h : j < xs.length) : (icells xs)[j]'(by rw [icells_length]; exact h) = .int .i64 (xs.getD j 0) := by
  simp [icells, List.getD_eq_getElem?_getD, List.getElem?_eq_getElem h]
theorem icells_set (xs : List Int) (j : Nat) (x : Int) : (icells xs).set j (.int .i64 x) = icells (xs.set j x) := by simp [icells, List.map_set]
theorem icells_replicate (n : Nat) (x : Int) : icells (List.replicate n x) = List.replicate n (.int .i64 x) := by simp [icells]
theorem icells_snoc (xs : List Int) (x : Int) : icells xs ++ [.int .i64 x] = icells (xs ++ [x]) := by simp [icells]

theorem Own.int_at {w : World} {B : Nat} {E : TypeId} {g n cap : Nat} {xs : List Int} (h : Own w B E (.slice (some ⟨g, 0, none⟩) n cap) (icells xs)) (j : Nat) (hj : j < xs.length) : w.cell? ⟨g, j, none⟩ = some (.int .i64 (xs.getD j 0)) := by
  have := h.cell j (by rw [icells_length]; exact hj)
  rw [icells_at _ _ hj] at this
  exact this
theorem Own.int_len {w : World} {B : Nat} {E : TypeId} {a : Option Addr} {n cap : Nat} {xs : List Int} (h : Own w B E (.slice a n cap) (icells xs)) : n = xs.length := by
  have := h.len
  rwa [icells_length] at this
theorem Own.readsI {w : World} {B : Nat} {E : TypeId} {v : Value} {xs : List Int} (h : Own w B E v (icells xs)) : ReadsI w v xs := h.reads
theorem Own.lt {w : World} {B : Nat} {E : TypeId} {g n cap : Nat} {fs : List Value} (h : Own w B E (.slice (some ⟨g, 0, none⟩) n cap) fs) : B ≤ g ∧ g < w.heap.size := World.ownsRow.lt h g rfl
theorem Own.caps {w : World} {B : Nat} {E : TypeId} {g n cap : Nat} {fs : List Value} (h : Own w B E (.slice (some ⟨g, 0, none⟩) n cap) fs) : n ≤ cap ∧ cap ≤ maxLen := by
  have hn := h.len
  rcases h.shape with ⟨hv, _⟩ | ⟨g', cap', hv, _, _, h1, h2⟩
  · cases hv
  · injection hv with e1 e2 e3
    omega

theorem ReadsI.at {w : World} {a : Option Addr} {n c : Nat} {xs : List Int} (h : ReadsI w (.slice a n c) xs) (j : Nat) (hj : j < xs.length) :
    ∃ b o, a = some ⟨b, o, none⟩ ∧ w.cell? ⟨b, o + j, none⟩ = some (.int .i64 (xs.getD j 0)) := by
  obtain ⟨a', cap, hv, h1, h2, h3⟩ := h
  injection hv with e1 e2 e3
  obtain ⟨b, o, ha, hc⟩ := h3 j (by simpa using hj)
  exact ⟨b, o, e1.trans ha, by rw [hc]; simp [List.getD_eq_getElem?_getD, List.getElem?_eq_getElem hj]⟩
theorem ReadsI.len {w : World} {a : Option Addr} {n c : Nat} {xs : List Int} (h : ReadsI w (.slice a n c) xs) : n = xs.length ∧ n ≤ c ∧ c ≤ 9223372036854775807 := by
  obtain ⟨a', cap, hv, h1, h2, h3⟩ := h
  injection hv with e1 e2 e3
  unfold maxLen at h2
  simp at h1 e2
  omega
theorem ReadsI.slice {w : World} {v : Value} {xs : List Int} (h : ReadsI w v xs) : ∃ a c, v = .slice a xs.length c := by
  obtain ⟨a', cap, hv, _⟩ := h
  exact ⟨a', cap, by simpa using hv⟩
theorem ReadsRows.at {w : World} {a : Option Addr} {n c : Nat} {m : List (List Int)} (h : ReadsRows w (.slice a n c) m) (i : Nat) (hi : i < m.length) :
    ∃ b o a' c', a = some ⟨b, o, none⟩ ∧ w.cell? ⟨b, o + i, none⟩ = some (.slice a' (m.getD i []).length c') ∧ ReadsI w (.slice a' (m.getD i []).length c') (m.getD i []) := by
  obtain ⟨vs, hl, ⟨a1, cap, hv, h1, h2, h3⟩, h4⟩ := h
  injection hv with e1 e2 e3
  obtain ⟨u, hu, hr⟩ := h4 i hi
  have e : m[i] = m.getD i [] := by simp [List.getD_eq_getElem?_getD, List.getElem?_eq_getElem hi]
  rw [e] at hr
  obtain ⟨a', c', rfl⟩ := hr.slice
  obtain ⟨b, o, ha, hc⟩ := h3 i (by omega)
  have : vs[i]'(by omega) = .slice a' (m.getD i []).length c' := by
    rw [List.getElem?_eq_getElem (by omega)] at hu
    exact Option.some.inj hu
  rw [this] at hc
  exact ⟨b, o, a', c', e1.trans ha, hc, hr⟩
theorem ReadsRows.len {w : World} {a : Option Addr} {n c : Nat} {m : List (List Int)} (h : ReadsRows w (.slice a n c) m) : n = m.length ∧ n ≤ c ∧ c ≤ 9223372036854775807 := by
  obtain ⟨vs, hl, ⟨a1, cap, hv, h1, h2, h3⟩, h4⟩ := h
  injection hv with e1 e2 e3
  unfold maxLen at h2
  omega
theorem ReadsRows.slice {w : World} {v : Value} {m : List (List Int)} (h : ReadsRows w v m) : ∃ a c, v = .slice a m.length c := by
  obtain ⟨vs, hl, ⟨a1, cap, hv, _⟩, _⟩ := h
  exact ⟨a1, cap, by rw [hv, hl]⟩
theorem ReadsRows.nil (w : World) (v : Value) (a : Option Addr) (hv : v = .slice a 0 0) : ReadsRows w v [] :=
  ⟨[], rfl, ⟨a, 0, hv, Nat.le_refl _, Nat.zero_le _, fun i hi => by simp at hi⟩, fun i hi => by simp at hi⟩
theorem ReadsI.nil (w : World) (a : Option Addr) : ReadsI w (.slice a 0 0) [] := ⟨a, 0, rfl, Nat.le_refl _, Nat.zero_le _, fun i hi => by simp at hi⟩

/-! ### What may be written: the blocks from B up to C -/
structure Within (B C : Nat) (w w' : World) : Prop where
  os : w'.os = w.os
  tape : w'.tape = w.tape
  output : w'.output = w.output
  size : w.heap.size ≤ w'.heap.size
  block : ∀ k, k < w.heap.size → (k < B ∨ C ≤ k) → w'.heap[k]? = w.heap[k]?

theorem Within.refl (B C : Nat) (w : World) : Within B C w w := ⟨rfl, rfl, rfl, Nat.le_refl _, fun _ _ _ => rfl⟩
theorem Within.trans {B C : Nat} {a b c : World} (h : Within B C a b) (k : Within B C b c) : Within B C a c :=
  ⟨k.os.trans h.os, k.tape.trans h.tape, k.output.trans h.output, Nat.le_trans h.size k.size, fun i hi hj => (k.block i (Nat.lt_of_lt_of_le hi h.size) hj).trans (h.block i hi hj)⟩
theorem Within.grown {B C : Nat} {w w' : World} {b : Nat} (hg : w.grownBy w' (some b)) (h1 : B ≤ b) (h2 : b < C) : Within B C w w' :=
  ⟨hg.os, hg.tape, hg.output, hg.size, fun k hk hj => hg.block k hk (by intro e; injection e with e; omega)⟩
theorem Within.mono {B C B' C' : Nat} {w w' : World} (h : Within B C w w') (hB : B' ≤ B) (hC : C ≤ C') : Within B' C' w w' :=
  ⟨h.os, h.tape, h.output, h.size, fun k hk hj => h.block k hk (by omega)⟩
theorem Ext.within {B C : Nat} {a w w' : World} (h : Ext a w) (k : Within B C w w') (hB : a.heap.size ≤ B) : Ext a w' :=
  Below.trans h ⟨k.os, k.tape, k.output, k.size, fun i hi => k.block i (Nat.lt_of_lt_of_le hi h.size) (by omega)⟩
theorem Own.within {B C : Nat} {w w' : World} (k : Within B C w w') {B' : Nat} {E : TypeId} {v : Value} {fs : List Value} (h : Own w B' E v fs) (hC : C ≤ B') : Own w' B' E v fs := by
  refine ⟨h.1, ?_⟩
  rcases h.2 with hn | ⟨g, cap, cur, hv, hb, hg, rest⟩
  · exact .inl hn
  · exact .inr ⟨g, cap, cur, hv, hb, by rw [k.block g (Array.getElem?_eq_some_iff.1 hg).1 (.inr (by omega))]; exact hg, rest⟩
theorem GB.alloc {W wr : World} {row : Option Nat} (h : W.grownBy wr row) (o : Obj) : W.grownBy (wr.alloc o) row := GB.ext h (Ext.alloc _ _)
theorem GB.trans {a b c : World} {row : Option Nat} (h : a.grownBy b row) (k : b.grownBy c row) : a.grownBy c row :=
  ⟨k.os.trans h.os, k.tape.trans h.tape, k.output.trans h.output, Nat.le_trans h.size k.size, fun i hi hj => (k.block i (Nat.lt_of_lt_of_le hi h.size) hj).trans (h.block i hi hj)⟩

/-! ### A table -/
/-- the first rows of a table of n: row i lies in block gs i, with room cs i -/
structure MTab (w : World) (B : Nat) (T E : TypeId) (g n cap : Nat) (gs cs : Nat → Nat) (m : List (List Int)) : Prop where
  own : ∃ fs, Own w B T (.slice (some ⟨g, 0, none⟩) n cap) fs ∧ ∀ i, i < m.length → fs[i]? = some (.slice (some ⟨gs i, 0, none⟩) (m.getD i []).length (cs i))
  row : ∀ i, i < m.length → Own w B E (.slice (some ⟨gs i, 0, none⟩) (m.getD i []).length (cs i)) (icells (m.getD i []))
  out : ∀ i, i < m.length → gs i ≠ g
  inj : ∀ i j, i < j → j < m.length → gs i ≠ gs j

section
variable {w w' : World} {B : Nat} {T E : TypeId} {g n cap : Nat} {gs cs : Nat → Nat} {m : List (List Int)}

theorem MTab.le (h : MTab w B T E g n cap gs cs m) : m.length ≤ n := by
  obtain ⟨fs, ho, hf⟩ := h.own
  have := ho.len
  rcases Nat.eq_zero_or_pos m.length with h0 | h0
  · omega
  · have := (List.getElem?_eq_some_iff.1 (hf (m.length - 1) (by omega))).1
    omega
theorem MTab.spot (h : MTab w B T E g n cap gs cs m) (i : Nat) (hi : i < m.length) : w.cell? ⟨g, i, none⟩ = some (.slice (some ⟨gs i, 0, none⟩) (m.getD i []).length (cs i)) := by
  obtain ⟨fs, ho, hf⟩ := h.own
  have h1 := hf i hi
  have hl := (List.getElem?_eq_some_iff.1 h1).1
  rw [ho.cell i hl, ← h1, List.getElem?_eq_getElem hl]
theorem MTab.at (h : MTab w B T E g n cap gs cs m) (i j : Nat) (hi : i < m.length) (hj : j < (m.getD i []).length) : w.cell? ⟨gs i, j, none⟩ = some (.int .i64 ((m.getD i []).getD j 0)) := (h.row i hi).int_at j hj
theorem MTab.frozen (h : MTab w B T E g n cap gs cs m) (i j : Nat) (hi : i < m.length) : w.frozen? ⟨gs i, j, none⟩ = false := (h.row i hi).frozen j
theorem MTab.lt (h : MTab w B T E g n cap gs cs m) : B ≤ g ∧ g < w.heap.size := by obtain ⟨fs, ho, _⟩ := h.own; exact ho.lt
theorem MTab.rowlt (h : MTab w B T E g n cap gs cs m) (i : Nat) (hi : i < m.length) : B ≤ gs i ∧ gs i < w.heap.size := (h.row i hi).lt
theorem MTab.caps (h : MTab w B T E g n cap gs cs m) : n ≤ cap ∧ cap ≤ maxLen := by obtain ⟨fs, ho, _⟩ := h.own; exact ho.caps
theorem MTab.ext (h : MTab w B T E g n cap gs cs m) (hx : Ext w w') : MTab w' B T E g n cap gs cs m := by
  obtain ⟨fs, ho, hf⟩ := h.own
  exact ⟨⟨fs, ho.ext hx, hf⟩, fun i hi => (h.row i hi).ext hx, h.out, h.inj⟩
theorem MTab.mono {B' : Nat} (h : MTab w B T E g n cap gs cs m) (hB : B' ≤ B) : MTab w B' T E g n cap gs cs m := by
  obtain ⟨fs, ho, hf⟩ := h.own
  exact ⟨⟨fs, ho.mono hB, hf⟩, fun i hi => (h.row i hi).mono hB, h.out, h.inj⟩
theorem MTab.within {B1 C1 : Nat} (h : MTab w B T E g n cap gs cs m) (k : Within B1 C1 w w') (hC : C1 ≤ B) : MTab w' B T E g n cap gs cs m := by
  obtain ⟨fs, ho, hf⟩ := h.own
  exact ⟨⟨fs, ho.within k hC, hf⟩, fun i hi => (h.row i hi).within k hC, h.out, h.inj⟩
/-- another block is written -/
theorem MTab.gb {row : Option Nat} (h : MTab w B T E g n cap gs cs m) (hg : w.grownBy w' row) (h1 : row ≠ some g) (h2 : ∀ i, i < m.length → row ≠ some (gs i)) : MTab w' B T E g n cap gs cs m := by
  obtain ⟨fs, ho, hf⟩ := h.own
  exact ⟨⟨fs, GB.own hg ho (by intro k hk; simp [Value.ownBlock] at hk; subst hk; exact h1), hf⟩, fun i hi => GB.own hg (h.row i hi) (by intro k hk; simp [Value.ownBlock] at hk; subst hk; exact h2 i hi), h.out, h.inj⟩

theorem MTab.reads (h : MTab w B T E g n cap gs cs m) (hn : n = m.length) : ReadsRows w (.slice (some ⟨g, 0, none⟩) n cap) m := by
  obtain ⟨fs, ho, hf⟩ := h.own
  have hl := ho.len
  refine ⟨fs, by omega, ?_, fun i hi => ⟨_, hf i hi, ?_⟩⟩
  · have := ho.reads
    exact this
  · have e : m[i] = m.getD i [] := by simp [List.getD_eq_getElem?_getD, List.getElem?_eq_getElem hi]
    rw [e]
    exact (h.row i hi).readsI

/-- a row is another one of its length -/
theorem MTab.turn (h : MTab w B T E g n cap gs cs m) (i : Nat) (hi : i < m.length) (hg : w.grownBy w' (some (gs i))) (r : List Int) (hr : r.length = (m.getD i []).length) (ho : Own w' B E (.slice (some ⟨gs i, 0, none⟩) r.length (cs i)) (icells r)) :
    MTab w' B T E g n cap gs cs (m.set i r) := by
  obtain ⟨fs, hfo, hf⟩ := h.own
  have len : ∀ k, k < m.length → ((m.set i r).getD k []).length = (m.getD k []).length := by
    intro k hk
    by_cases e : i = k
    · subst e; simp [List.getD_eq_getElem?_getD, hi] at hr ⊢; exact hr
    · simp [List.getD_eq_getElem?_getD, e]
  refine ⟨⟨fs, GB.own hg hfo (by intro k hk; simp [Value.ownBlock] at hk; subst hk; intro e; exact h.out i hi (Option.some.inj e)), fun k hk => ?_⟩, fun k hk => ?_, fun k hk => ?_, fun a b hab hb => ?_⟩
  · rw [List.length_set] at hk
    rw [len k hk]; exact hf k hk
  · rw [List.length_set] at hk
    by_cases e : i = k
    · subst e
      have e2 : (m.set i r).getD i [] = r := by simp [List.getD_eq_getElem?_getD, hi]
      rw [e2]; exact ho
    · have e2 : (m.set i r).getD k [] = m.getD k [] := by simp [List.getD_eq_getElem?_getD, e]
      rw [e2]
      refine GB.own hg (h.row k hk) ?_
      intro q hq
      simp [Value.ownBlock] at hq
      subst hq
      intro e3
      have e4 := Option.some.inj e3
      rcases Nat.lt_or_gt_of_ne e with h1 | h1
      · exact h.inj i k h1 hk e4
      · exact h.inj k i h1 hi e4.symm
  · rw [List.length_set] at hk; exact h.out k hk
  · rw [List.length_set] at hb; exact h.inj a b hab hb

/-- one number turned -/
def setM (m : List (List Int)) (i j : Nat) (x : Int) : List (List Int) := m.set i ((m.getD i []).set j x)
theorem setM_length (m : List (List Int)) (i j : Nat) (x : Int) : (setM m i j x).length = m.length := by simp [setM]
theorem MTab.set (h : MTab w B T E g n cap gs cs m) (i j : Nat) (hi : i < m.length) (x : Int) : MTab (w.setCell ⟨gs i, j, none⟩ (.int .i64 x)) B T E g n cap gs cs (setM m i j x) := by
  refine h.turn i hi (GB.setCell (GB.refl w _) j _) _ (by simp) ?_
  have := (h.row i hi).store j (.int .i64 x)
  rw [icells_set] at this
  rw [List.length_set]
  exact this

/-- all rows, as cells -/
def rowsV (gs cs : Nat → Nat) (m : List (List Int)) : List Value := (List.range m.length).map fun i => .slice (some ⟨gs i, 0, none⟩) (m.getD i []).length (cs i)
theorem rowsV_length (gs cs : Nat → Nat) (m : List (List Int)) : (rowsV gs cs m).length = m.length := by simp [rowsV]
theorem MTab.full (h : MTab w B T E g n cap gs cs m) (hn : n = m.length) : Own w B T (.slice (some ⟨g, 0, none⟩) n cap) (rowsV gs cs m) := by
  obtain ⟨fs, ho, hf⟩ := h.own
  have hl := ho.len
  have : fs = rowsV gs cs m := by
    apply List.ext_getElem?
    intro i
    by_cases hi : i < m.length
    · rw [hf i hi]; simp [rowsV, hi]
    · rw [List.getElem?_eq_none (by omega), List.getElem?_eq_none (by simp [rowsV]; omega)]
  rw [← this]; exact ho

theorem MTab.nil {cap : Nat} {fs : List Value} (h : Own w B T (.slice (some ⟨g, 0, none⟩) n cap) fs) (gs cs : Nat → Nat) : MTab w B T E g n cap gs cs [] :=
  ⟨⟨fs, h, fun i hi => by simp at hi⟩, fun i hi => by simp at hi, fun i hi => by simp at hi, fun i j _ hj => by simp at hj⟩

def updN (f : Nat → Nat) (k x : Nat) : Nat → Nat := fun i => if i = k then x else f i
theorem updN_at (f : Nat → Nat) (k x : Nat) : updN f k x k = x := by simp [updN]
theorem updN_ne (f : Nat → Nat) (k x i : Nat) (h : i ≠ k) : updN f k x i = f i := by simp [updN, h]

theorem getD_snoc_lt (m : List (List Int)) (r : List Int) (i : Nat) (h : i < m.length) : (m ++ [r]).getD i [] = m.getD i [] := by
  simp [List.getD_eq_getElem?_getD, List.getElem?_append_left h]
theorem getD_snoc_eq (m : List (List Int)) (r : List Int) : (m ++ [r]).getD m.length [] = r := by
  simp [List.getD_eq_getElem?_getD]

/-- one row more, the table itself being a new one -/
theorem MTab.grow {g' n' cap' : Nat} {r : List Int} {gr cr : Nat} {row : Option Nat} (h : MTab w B T E g n cap gs cs m) (hr : Own w B E (.slice (some ⟨gr, 0, none⟩) r.length cr) (icells r)) (hgr : gr ≠ g) (hgs : ∀ i, i < m.length → gs i ≠ gr)
    (hg : w.grownBy w' row) (hrow : ∀ k, row = some k → k = g) (hnew : g' = g ∨ w.heap.size ≤ g') (ho : ∃ fs, Own w' B T (.slice (some ⟨g', 0, none⟩) n' cap') fs ∧ (∀ i, i < m.length → fs[i]? = some (.slice (some ⟨gs i, 0, none⟩) (m.getD i []).length (cs i))) ∧ fs[m.length]? = some (.slice (some ⟨gr, 0, none⟩) r.length cr)) :
    MTab w' B T E g' n' cap' (updN gs m.length gr) (updN cs m.length cr) (m ++ [r]) := by
  obtain ⟨fs, hfo, hf, hl⟩ := ho
  have hgr2 := hr.lt
  refine ⟨⟨fs, hfo, fun i hi => ?_⟩, fun i hi => ?_, fun i hi => ?_, fun i j hij hj => ?_⟩
  · rw [List.length_append, List.length_singleton] at hi
    by_cases e : i = m.length
    · subst e; rw [updN_at, updN_at, getD_snoc_eq]; exact hl
    · rw [updN_ne _ _ _ _ e, updN_ne _ _ _ _ e, getD_snoc_lt _ _ _ (by omega)]; exact hf i (by omega)
  · rw [List.length_append, List.length_singleton] at hi
    by_cases e : i = m.length
    · subst e; rw [updN_at, updN_at, getD_snoc_eq]
      refine GB.own hg hr ?_
      intro k hk e2
      simp [Value.ownBlock] at hk
      have := hrow k e2
      omega
    · rw [updN_ne _ _ _ _ e, updN_ne _ _ _ _ e, getD_snoc_lt _ _ _ (by omega)]
      refine GB.own hg (h.row i (by omega)) ?_
      intro k hk e2
      simp [Value.ownBlock] at hk
      have := hrow k e2
      have := h.out i (by omega)
      omega
  · rw [List.length_append, List.length_singleton] at hi
    by_cases e : i = m.length
    · subst e; rw [updN_at]; omega
    · rw [updN_ne _ _ _ _ e]
      have h1 := h.out i (by omega)
      have h2 := h.rowlt i (by omega)
      omega
  · rw [List.length_append, List.length_singleton] at hj
    rw [updN_ne _ _ _ i (by omega)]
    by_cases e : j = m.length
    · subst e; rw [updN_at]; exact hgs i hij
    · rw [updN_ne _ _ _ _ e]; exact h.inj i j hij (by omega)

/-- .. behind an append -/
theorem MTab.push {v' : Value} {r : List Int} {gr cr : Nat} (h : MTab w B T E g n cap gs cs m) (hn : n = m.length) (hr : Own w B E (.slice (some ⟨gr, 0, none⟩) r.length cr) (icells r)) (hgr : gr ≠ g) (hgs : ∀ i, i < m.length → gs i ≠ gr)
    (hown : Own w' B T v' (rowsV gs cs m ++ [.slice (some ⟨gr, 0, none⟩) r.length cr])) (hg : w.grownBy w' (Value.slice (some ⟨g, 0, none⟩) n cap).ownBlock ∧ Moved w (Value.slice (some ⟨g, 0, none⟩) n cap) v') :
    ∃ g' cap' gs' cs', v' = .slice (some ⟨g', 0, none⟩) (n + 1) cap' ∧ MTab w' B T E g' (n + 1) cap' gs' cs' (m ++ [r]) := by
  have hsh := hown.shape
  have hlen : (rowsV gs cs m ++ [Value.slice (some ⟨gr, 0, none⟩) r.length cr]).length = n + 1 := by simp [rowsV_length, hn]
  rcases hsh with ⟨_, hnil⟩ | ⟨g', cap', hv, _, _, _, _⟩
  · rw [hnil] at hlen; simp at hlen
  rw [hlen] at hv
  subst hv
  refine ⟨g', cap', _, _, rfl, h.grow hr hgr hgs hg.1 (by intro k hk; simp [Value.ownBlock] at hk; omega) ?_ ⟨_, hown, fun i hi => ?_, ?_⟩⟩
  · rcases hg.2 with hm | hm
    · left; simpa [Value.ownBlock] using hm
    · right; exact hm g' rfl
  · rw [List.getElem?_append_left (by rw [rowsV_length]; exact hi)]
    simp [rowsV, hi]
  · rw [List.getElem?_append_right (by rw [rowsV_length]; exact Nat.le_refl _), rowsV_length, Nat.sub_self]; rfl

/-- .. behind a store -/
theorem MTab.put {r : List Int} {gr cr : Nat} (h : MTab w B T E g n cap gs cs m) (hn : m.length < n) (hr : Own w B E (.slice (some ⟨gr, 0, none⟩) r.length cr) (icells r)) (hgr : gr ≠ g) (hgs : ∀ i, i < m.length → gs i ≠ gr) :
    MTab (w.setCell ⟨g, m.length, none⟩ (.slice (some ⟨gr, 0, none⟩) r.length cr)) B T E g n cap (updN gs m.length gr) (updN cs m.length cr) (m ++ [r]) := by
  obtain ⟨fs, ho, hf⟩ := h.own
  have hl := ho.len
  refine h.grow hr hgr hgs (GB.setCell (GB.refl w (some g)) _ _) (by intro k hk; exact (Option.some.inj hk).symm) (.inl rfl) ⟨_, ho.store m.length _, fun i hi => ?_, ?_⟩
  · rw [List.getElem?_set_ne (by omega)]; exact hf i hi
  · rw [List.getElem?_set_self (by omega)]
end

/-! ### What a marked table holds -/
def countL (k : Int) (n : Nat) : List Int := (List.range n).map fun i : Nat => k + (i : Int)
theorem countL_length (k : Int) (n : Nat) : (countL k n).length = n := by simp [countL]
theorem countL_at (k : Int) (n j : Nat) (h : j < n) : (countL k n).getD j 0 = k + (j : Int) := by simp [countL, List.getD_eq_getElem?_getD, h]
def sizeM (m : List (List Int)) : Nat := (m.map List.length).sum
def markM : Int → List (List Int) → List (List Int)
  | _, [] => []
  | k, r :: m => countL k r.length :: markM (k + (r.length : Int)) m
theorem markM_length (k : Int) (m : List (List Int)) : (markM k m).length = m.length := by
  induction m generalizing k with
  | nil => rfl
  | cons r m ih => simp [markM, ih]
theorem sizeM_take (m : List (List Int)) (i : Nat) (h : i < m.length) : sizeM (m.take (i + 1)) = sizeM (m.take i) + (m.getD i []).length := by
  unfold sizeM
  rw [List.take_succ_eq_append_getElem h, List.map_append, List.sum_append]
  simp [List.getD_eq_getElem?_getD, List.getElem?_eq_getElem h]
theorem sizeM_take_le (m : List (List Int)) (i : Nat) : sizeM (m.take i) ≤ sizeM m := by
  unfold sizeM
  have := congrArg (fun l => (l.map List.length).sum) (List.take_append_drop i m)
  simp only [List.map_append, List.sum_append] at this
  omega
theorem sizeM_row (m : List (List Int)) (i : Nat) (h : i < m.length) : (m.getD i []).length ≤ sizeM m := by
  have h1 := sizeM_take m i h
  have h2 := sizeM_take_le m (i + 1)
  omega
theorem sizeM_all (m : List (List Int)) : sizeM (m.take m.length) = sizeM m := by rw [List.take_length]
theorem markM_at (k : Int) (m : List (List Int)) (i : Nat) (h : i < m.length) : (markM k m).getD i [] = countL (k + (sizeM (m.take i) : Nat)) (m.getD i []).length := by
  induction m generalizing k i with
  | nil => simp at h
  | cons r m ih =>
    cases i with
    | zero => simp [markM, sizeM]
    | succ i =>
      have := ih (k + (r.length : Int)) i (by simpa using h)
      simp only [markM, List.getD_cons_succ, List.take_succ_cons]
      rw [this]
      congr 1
      unfold sizeM
      simp
      omega
theorem sizeM_markM (k : Int) (m : List (List Int)) : sizeM (markM k m) = sizeM m := by
  induction m generalizing k with
  | nil => rfl
  | cons r m ih =>
    have := ih (k + (r.length : Int))
    unfold sizeM at this ⊢
    simp [markM, this, countL_length]
/-- marked up to a row -/
def markTo (k : Int) (m : List (List Int)) (i : Nat) : List (List Int) := markM k (m.take i) ++ m.drop i
theorem markTo_length (k : Int) (m : List (List Int)) (i : Nat) : (markTo k m i).length = m.length := by simp [markTo, markM_length]; omega
theorem markTo_zero (k : Int) (m : List (List Int)) : markTo k m 0 = m := by simp [markTo, markM]
theorem markTo_all (k : Int) (m : List (List Int)) : markTo k m m.length = markM k m := by simp [markTo]
theorem markTo_lt (k : Int) (m : List (List Int)) (i j : Nat) (hi : i ≤ m.length) (h : j < i) : (markTo k m i).getD j [] = countL (k + (sizeM (m.take j) : Nat)) (m.getD j []).length := by
  unfold markTo
  have e : (markM k (m.take i) ++ m.drop i).getD j [] = (markM k (m.take i)).getD j [] := by
    simp only [List.getD_eq_getElem?_getD]
    rw [List.getElem?_append_left (by rw [markM_length, List.length_take]; omega)]
  rw [e, markM_at _ _ _ (by rw [List.length_take]; omega), List.take_take, Nat.min_eq_left (by omega)]
  congr 2
  simp [List.getD_eq_getElem?_getD, h]
theorem markTo_ge (k : Int) (m : List (List Int)) (i j : Nat) (hi : i ≤ m.length) (h : i ≤ j) : (markTo k m i).getD j [] = m.getD j [] := by
  unfold markTo
  simp only [List.getD_eq_getElem?_getD]
  rw [List.getElem?_append_right (by rw [markM_length, List.length_take]; omega), markM_length, List.length_take, Nat.min_eq_left hi, List.getElem?_drop, Nat.add_sub_cancel' h]
theorem ext_getD {a b : List (List Int)} (hl : a.length = b.length) (h : ∀ i, i < a.length → a.getD i [] = b.getD i []) : a = b := by
  apply List.ext_getElem hl
  intro i h1 h2
  have := h i h1
  simpa [List.getD_eq_getElem?_getD, List.getElem?_eq_getElem h1, List.getElem?_eq_getElem h2] using this
theorem markTo_succ (k : Int) (m : List (List Int)) (i : Nat) (h : i < m.length) : markTo k m (i + 1) = (markTo k m i).set i (countL (k + (sizeM (m.take i) : Nat)) (m.getD i []).length) := by
  apply ext_getD
  · rw [List.length_set, markTo_length, markTo_length]
  · intro j hj
    rw [markTo_length] at hj
    by_cases e : i = j
    · subst e
      rw [markTo_lt _ _ _ _ (by omega) (by omega)]
      have e : ∀ r : List Int, ((markTo k m i).set i r).getD i [] = r := fun r => by rw [List.getD_eq_getElem?_getD, List.getElem?_set_self (by rw [markTo_length]; exact h)]; rfl
      rw [e]
    · have e2 : ((markTo k m i).set i (countL (k + (sizeM (m.take i) : Nat)) (m.getD i []).length)).getD j [] = (markTo k m i).getD j [] := by
        rw [List.getD_eq_getElem?_getD, List.getElem?_set_ne e, ← List.getD_eq_getElem?_getD]
      rw [e2]
      rcases Nat.lt_or_ge j i with h1 | h1
      · rw [markTo_lt _ _ _ _ (by omega) (by omega), markTo_lt _ _ _ _ (by omega) h1]
      · rw [markTo_ge _ _ _ _ (by omega) (by omega), markTo_ge _ _ _ _ (by omega) h1]

/-- what is left of a bound when a table is taken off -/
def leftM (n : Int) (m : List (List Int)) : Int := if n - (m.length : Int) - (sizeM m : Int) < 0 then -1 else n - (m.length : Int) - (sizeM m : Int)
theorem leftM_le (n : Int) (m : List (List Int)) (h : 0 ≤ n) : leftM n m ≤ n := by unfold leftM; split <;> omega
theorem leftM_fits {n : Int} {m : List (List Int)} (h : 0 ≤ leftM n m) : (m.length : Int) + (sizeM m : Int) ≤ n := by
  unfold leftM at h
  split at h <;> omega
end Go

/- Appends of many elements to a row of the call's own; the first part of a row. No dump is imported. -/
namespace Go
open Go.RowKit

theorem Own.take {w : World} {B : Nat} {E : TypeId} {g n cap : Nat} {fs : List Value} (h : Own w B E (.slice (some ⟨g, 0, none⟩) n cap) fs) (k : Nat) (hk : k ≤ n) : Own w B E (.slice (some ⟨g, 0, none⟩) k cap) (fs.take k) := by
  have hn := h.len
  rcases h.2 with ⟨hv, _⟩ | ⟨g', cap', cur, hv, hb, hg, h1, h2, h3, h4⟩
  · cases hv
  · injection hv with e1 e2 e3
    injection e1 with e1
    injection e1 with e1
    subst e1
    subst e3
    have hl : (fs.take k).length = k := by rw [List.length_take]; omega
    refine ⟨by simp, .inr ⟨g, cap, cur, by rw [hl], hb, hg, by rw [hl]; omega, h2, h3, ?_⟩⟩
    rw [hl, ← h4, List.take_take]
    congr 1
    omega

/-- 'out = append(out, xs...)' on a row of the call's own. -/
theorem wpList_append_many {P : Program} {w : World} {ops : Array Oper} {rest : List Oper} {o : Oper} {a : Act} {Q : Exit → Act → World → Prop} (hgd : o.guard = none) (s x : Operand) (t : TypeId)
    (ho : o.op = .call { callee := .builtin .append, args := #[s, x], argTypes := #[t, t] })
    (E : TypeId) (z : Value) (bytes : Nat) (ht : P.underlying t = some (.slice E)) (hinfo : (P.info? E).map (fun i => (i.zero, i.size, i.bytes)) = some (some z, 1, bytes)) (hz1 : z.cells = #[z])
    (B : Nat) (v : Value) (fs : List Value) (hs : a.eval s = v) (hown : Own w B E v fs)
    (ad : Addr) (m c : Nat) (news : List Value) (hx : a.eval x = .slice (some ad) m c) (hl : news.length = m) (hnews : ∀ j u, news[j]? = some u → w.cell? (ad.add j) = some u) (h1 : ∀ u ∈ news, u.oneCell' = true)
    (hlen : fs.length + m ≤ maxLen) (hbytes : (fs.length + m) * bytes ≤ 140737488355328)
    (W0 : World) (hB : W0.heap.size ≤ B) (hBw : B ≤ w.heap.size) (hext : Ext W0 w)
    (h : ∀ v' w', Own w' B E v' (fs ++ news) → Ext W0 w' → w.grownBy w' v.ownBlock → (v' = .slice none 0 0 ↔ v = .slice none 0 0 ∧ m = 0) → wpList P ops Q rest (a.put o.dst v') w') : wpList P ops Q (o :: rest) a w := by
  obtain ⟨i, hi, hzz⟩ := Option.map_eq_some_iff.1 hinfo
  simp only [Prod.mk.injEq] at hzz
  obtain ⟨hz, hsz, hb⟩ := hzz
  obtain ⟨v', w', hr, h2, h3, h4⟩ := run_append_own (P := P) w B t o.type E i z 1 bytes ht hi hz hsz hb (by rw [hz1]; rfl) (by omega) v fs.length fs hown ad m c news (by omega) hnews h1 hlen hbytes hBw
  refine wpList_plain hgd fun K hK' => ?_
  unfold Oper.wp execOp
  simp only [ho, resolve, invoke, builtin, Sem.run_bind, Sem.run_pure, Result.andThen_ok, List.map_toArray, List.map_cons, List.map_nil, hs, hx, hr]
  refine hK' _ _ (h v' w' ?_ (hext.grown h3 fun k hk => ?_) h3 h4)
  · unfold Own
    rw [List.length_append, hl]
    exact h2
  · have := (World.ownsRow.lt hown k hk).1
    omega

/-- 'append([]T{}, xs...)': nothing that was there turns -/
theorem run_append_lit {P : Program} {w : World} (t ty E : TypeId) (z : Value) (bytes : Nat) (ht : P.underlying t = some (.slice E)) (hinfo : (P.info? E).map (fun i => (i.zero, i.size, i.bytes)) = some (some z, 1, bytes)) (hz1 : z.cells = #[z])
    (B g : Nat) (hown : Own w B E (.slice (some ⟨g, 0, none⟩) 0 0) []) (ad : Addr) (m c : Nat) (news : List Value) (hl : news.length = m) (hnews : ∀ j u, news[j]? = some u → w.cell? (ad.add j) = some u) 
    (hlen : m ≤ maxLen) (hbytes : m * bytes ≤ 140737488355328) (hbase : B ≤ w.heap.size) :
    ∃ g' c' w', (Builtin.append_ #[t, t] ty #[.slice (some ⟨g, 0, none⟩) 0 0, .slice (some ad) m c]).run P w = .ok (.slice (some ⟨g', 0, none⟩) m c') w' ∧ Own w' B E (.slice (some ⟨g', 0, none⟩) m c') news ∧ Ext w w' := by
  obtain ⟨i, hi, hzz⟩ := Option.map_eq_some_iff.1 hinfo
  simp only [Prod.mk.injEq] at hzz
  obtain ⟨hz, hsz, hb⟩ := hzz
  rcases Nat.eq_zero_or_pos m with h0 | h0
  · subst h0
    have hn : news = [] := List.eq_nil_of_length_eq_zero hl
    subst hn
    refine ⟨g, 0, w, ?_, hown, Ext.refl _⟩
    simp [Builtin.append_, run_underlying ht, sizeOf, typeInfo, hi, Builtin.lenOf, Builtin.firstCells, storeCells, loadCells, loadCellsFrom]
  · have hlen63 : (m : Int) ≤ 9223372036854775807 := by simp only [maxLen] at hlen; omega
    have hr := run_append_grow (P := P) w t ty E i z ht hi hz ⟨g, 0, none⟩ 0 0 [] (by simp) (by intro j u hj; simp at hj) ad m c news (by rw [hsz]; omega) hnews (by omega) (by simpa using hlen63) (by rw [hb]; exact growslice_fits (by omega) (by simpa using hbytes))
    rw [Nat.zero_add] at hr
    refine ⟨_, _, _, hr, ?_, (Ext.drew w).trans (Ext.alloc _ _)⟩
    have hge := grownCap_ge w m 0 E
    unfold Own
    rw [hl]
    refine ⟨by simp; omega, .inr ⟨w.heap.size, _, _, rfl, hbase, heap_alloc_new w.drew _, hge, grownCap_le_maxLen w m 0 E hlen, ?_, ?_⟩⟩
    · simp only [Array.size_append, List.size_toArray, size_zeroCells, hz1, List.length_nil]
      rw [hl]
      show 0 + m + (grownCap w m 0 E - m) * 1 = _
      omega
    · simp only [Array.toList_append, Nat.mul_one, List.nil_append]
      rw [← hl]
      exact List.take_left

theorem icells_one (xs : List Int) : ∀ u ∈ icells xs, u.oneCell' = true := by
  intro u hu
  simp only [icells, List.mem_map] at hu
  obtain ⟨x, _, rfl⟩ := hu
  rfl
theorem ReadsI.news_drop {w : World} {b o n c : Nat} {xs : List Int} (h : ReadsI w (.slice (some ⟨b, o, none⟩) n c) xs) (k : Nat) : ∀ (q : Nat) (u : Value), (icells (xs.drop k))[q]? = some u → w.cell? ((⟨b, o + k, none⟩ : Addr).add q) = some u := by
  intro q u hq
  have hl := (List.getElem?_eq_some_iff.1 hq).1
  rw [icells_length, List.length_drop] at hl
  obtain ⟨b', o', hb, hc⟩ := h.at (k + q) (by omega)
  injection hb with hb
  injection hb with h1 h2
  subst h1; subst h2
  have e : u = .int .i64 (xs.getD (k + q) 0) := by
    simp only [icells, List.getElem?_map, List.getElem?_drop] at hq
    rw [List.getElem?_eq_getElem (by omega)] at hq
    simp at hq
    rw [← hq, List.getD_eq_getElem?_getD, List.getElem?_eq_getElem (by omega)]
    rfl
  rw [e, ← hc]
  congr 1
  simp [Addr.add, Nat.add_assoc]
theorem ReadsI.news_take {w : World} {b o n c : Nat} {xs : List Int} (h : ReadsI w (.slice (some ⟨b, o, none⟩) n c) xs) (k : Nat) : ∀ (q : Nat) (u : Value), (icells (xs.take k))[q]? = some u → w.cell? ((⟨b, o, none⟩ : Addr).add q) = some u := by
  intro q u hq
  have hl := (List.getElem?_eq_some_iff.1 hq).1
  rw [icells_length, List.length_take] at hl
  refine h.news_drop 0 q u ?_
  rw [List.drop_zero]
  simp only [icells, List.getElem?_map, List.getElem?_take] at hq ⊢
  rw [if_pos (by omega)] at hq
  exact hq
/-- a row of the call's own, where it stands -/
def LitJ (B : Nat) (E : TypeId) (n : Nat) (fs : List Value) (u : Value) (w : World) : Prop := ∃ g c, u = .slice (some ⟨g, 0, none⟩) n c ∧ Own w B E u fs
theorem LitJ.ok (B : Nat) (E : TypeId) (n : Nat) (fs : List Value) : ∀ u w w', Ext w w' → LitJ B E n fs u w → LitJ B E n fs u w' := fun _ _ _ hx ⟨g, c, h1, h2⟩ => ⟨g, c, h1, h2.ext hx⟩
/-- an empty one, with no room -/
def NilJ (B : Nat) (E : TypeId) (u : Value) (w : World) : Prop := ∃ g, u = .slice (some ⟨g, 0, none⟩) 0 0 ∧ Own w B E u []
theorem NilJ.ok (B : Nat) (E : TypeId) : ∀ u w w', Ext w w' → NilJ B E u w → NilJ B E u w' := fun _ _ _ hx ⟨g, h1, h2⟩ => ⟨g, h1, h2.ext hx⟩
theorem NilJ.new {B : Nat} {w : World} {E : TypeId} (hB : B ≤ w.heap.size) : Ext w (w.alloc (.cells #[] E)) ∧ NilJ B E (.slice (some ⟨w.heap.size, 0, none⟩) 0 0) (w.alloc (.cells #[] E)) :=
  ⟨Ext.alloc _ _, w.heap.size, rfl, (Own.lit w E [] (by simp)).mono hB⟩
end Go

/- A copy into a row of the call's own. No dump is imported. -/
namespace Go
open Go.RowKit

theorem splice_take {α : Type} (L cs : List α) (off n : Nat) (h : off + cs.length ≤ n) (hn : n ≤ L.length) : (L.take off ++ (cs ++ L.drop (off + cs.length))).take n = splice (L.take n) off cs := by
  unfold splice
  have e1 : (L.take n).take off = L.take off := by rw [List.take_take, Nat.min_eq_left (by omega)]
  have e2 : (L.take n).drop (off + cs.length) = (L.drop (off + cs.length)).take (n - (off + cs.length)) := by rw [List.drop_take]
  have hl : (L.take off).length = off := by rw [List.length_take]; omega
  rw [e1, e2, List.take_append, hl, List.take_of_length_le (l := L.take off) (by omega), List.take_append, List.take_of_length_le (l := cs) (by omega)]
  congr 3
  omega

/-- 'copy(out[off:], xs)', out a row of the call's own, xs no longer than what is left. -/
theorem wpList_copy_into {P : Program} {w : World} {ops : Array Oper} {rest : List Oper} {o : Oper} {a : Act} {Q : Exit → Act → World → Prop} (hgd : o.guard = none) (d s : Operand) (dT sT : TypeId)
    (ho : o.op = .call { callee := .builtin .copy, args := #[d, s], argTypes := #[dT, sT] }) (elem : TypeId) (hu : P.underlying dT = some (.slice elem)) (hsz : (P.info? elem).map (·.size) = some 1)
    (B : Nat) (E : TypeId) (g n cap : Nat) (fs : List Value) (hown : Own w B E (.slice (some ⟨g, 0, none⟩) n cap) fs)
    (off dLen dCap : Nat) (hd : a.eval d = .slice (some ⟨g, off, none⟩) dLen dCap)
    (ad : Addr) (m c : Nat) (hs : a.eval s = .slice (some ad) m c) (news : List Value) (hl : news.length = m) (hnews : ∀ j v, news[j]? = some v → w.cell? (ad.add j) = some v) (h1 : ∀ v ∈ news, v.oneCell' = true) (hm : m ≤ dLen) (hfit : off + m ≤ n)
    (h : ∀ w', Own w' B E (.slice (some ⟨g, 0, none⟩) n cap) (splice fs off news) → w.grownBy w' (some g) → wpList P ops Q rest (a.put o.dst (.int .i64 m)) w') : wpList P ops Q (o :: rest) a w := by
  have hn := hown.len
  subst hn
  subst hl
  have hlen := hown.1
  rcases hown.2 with ⟨hv, _⟩ | ⟨g', cap', cur, hv, hb, hg, h2, h3, h4, h5⟩
  · cases hv
  · injection hv with e1 e2 e3
    injection e1 with e1
    injection e1 with e1
    subst e1; subst e3
    rw [Nat.mul_one] at h4 h5 hlen
    have hcl : cur.toList.length = cap := by simpa using h4
    refine wpList_copy_own hgd d s dT sT ho elem hu hsz g off dLen dCap ad news.length c hd hs cur E hg news (Nat.min_eq_left hm).symm hnews (by omega) h1 ?_
    have hsp := splice_take cur.toList news off fs.length hfit (by omega)
    rw [h5] at hsp
    have hsl : (splice fs off news).length = fs.length := length_splice fs off news hfit
    refine h _ ?_ ⟨rfl, rfl, rfl, by simp [World.setRow], fun k hk hj => setRow_other w g k _ (by intro e; exact hj (by rw [e]))⟩
    unfold Own
    rw [hsl]
    refine ⟨by rw [Nat.mul_one]; exact hsl, .inr ⟨g, cap, _, rfl, hb, setRow_heap w g _ _ E _ hg, h2, h3, ?_, ?_⟩⟩
    · simp
      omega
    · simp only [Nat.mul_one]
      exact hsp
theorem ReadsI.news {w : World} {b o n c : Nat} {xs : List Int} (h : ReadsI w (.slice (some ⟨b, o, none⟩) n c) xs) : ∀ (q : Nat) (u : Value), (icells xs)[q]? = some u → w.cell? ((⟨b, o, none⟩ : Addr).add q) = some u := by
  have := h.news_drop 0
  rw [List.drop_zero] at this
  exact this
end Go

/- A region that asks the tape for its order: its operation that is a move and waits for nothing is done ahead. No dump is imported. -/
namespace Go
open Go.RowKit

/-- only the plain end counts -/
def onlyN (Q : Exit → Act → World → Prop) : Exit → Act → World → Prop := fun e a w => e = .normal ∧ Q .normal a w
@[go_sem] theorem onlyN_normal (Q : Exit → Act → World → Prop) (a : Act) (w : World) : onlyN Q .normal a w ↔ Q .normal a w := ⟨fun h => h.2, fun h => ⟨rfl, h⟩⟩
theorem onlyN_lets {Q : Exit → Act → World → Prop} (h : LetsOut (onlyN Q)) : False := by
  obtain ⟨a, w, h, _⟩ := h
  cases h

section
variable {P : Program}

/-- another operation than the move f that may come ahead of it: it does not look at d, and it writes neither d nor t -/
def besideOk (ops : Array Oper) (d t : Nat) (p : Oper) : Bool :=
  !(p.looksAt ops).contains d && (p.dst != some d && (p.dst != some t && (match p.op with | .select _ _ => false | _ => true)))
/-- operation f is a move of slot t to slot d that waits for nothing -/
def hoistOk (l : List Oper) (f d t : Nat) : Bool :=
  match l[f]? with
  | some o => (match o.op with | .move (.tmp x) => x == t | _ => false) && (o.dst == some d && (o.after.all (fun e => !Region.binds .any e) && (o.guard.isNone && (d != t &&
      (List.range l.length).all fun i => i == f || (ancB l i f || match l[i]? with | some p => besideOk l.toArray d t p | none => true)))))
  | none => false

/-- of an operation that is ready all forerunners are done -/
theorem anc_listed {l : List Oper} (hB : ancOk l (ancAll l []) = true) {listed : Array Bool} (hcl : ∀ (i : Nat) (A : List Nat), listed[i]? = some true → (ancAll l [])[i]? = some A → ∀ j ∈ A, listed[j]? = some true) {i : Nat} (hi : i ∈ Region.ready .any l.toArray listed) {A : List Nat} (hA : (ancAll l [])[i]? = some A) : ∀ j ∈ A, listed[j]? = some true := by
  obtain ⟨hun, o, ho, hafter⟩ := mem_ready.1 hi
  have hol : l[i]? = some o := by simpa using ho
  obtain ⟨A', hA', hok⟩ := ancOk_at hB hol
  rw [hA] at hA'; cases hA'
  simp only [ancOk1, Bool.and_eq_true, List.all_eq_true, Array.any_eq_true] at hok
  intro j hj
  have h1 := (hok.1.2 j hj)
  obtain ⟨k, hk, he⟩ := h1.2
  simp only [Bool.or_eq_true] at he
  have hl := hafter _ (Array.getElem_mem hk) he.1
  have hl' : listed[(o.after[k]'hk).on]? = some true := by
    cases hx : listed[(o.after[k]'hk).on]? with
    | none => simp [Array.getD_eq_getD_getElem?, hx] at hl
    | some b => simp [Array.getD_eq_getD_getElem?, hx] at hl; rw [hl]
  rcases he.2 with he | he
  · have : (o.after[k]'hk).on = j := by simpa using he
    rw [← this]; exact hl'
  · cases hB' : (ancAll l [])[(o.after[k]'hk).on]? with
    | none => rw [hB'] at he; simp at he
    | some B => rw [hB'] at he; exact hcl _ B hl' hB' j (by simpa using he)

theorem wpAny_hoist {Q : Exit → Act → World → Prop} {l : List Oper} {f d t : Nat} (hh : hoistOk l f d t = true) (hB : ancOk l (ancAll l []) = true) : ∀ (fuel : Nat) (listed : Array Bool) (a : Act) (w : World), f < listed.size → listed.getD f true = false → (∀ (i : Nat) (A : List Nat), listed[i]? = some true → (ancAll l [])[i]? = some A → ∀ j ∈ A, listed[j]? = some true) →
    wpAny P .any l.toArray (onlyN Q) fuel (listed.setIfInBounds f true) (a.put (some d) (a.eval (.tmp t))) w → wpAny P .any l.toArray (onlyN Q) (fuel + 1) listed a w := by
  cases ho : l[f]? with
  | none => simp [hoistOk, ho] at hh
  | some o =>
  simp only [hoistOk, ho, Bool.and_eq_true, List.all_eq_true] at hh
  obtain ⟨hop, hdst, haf, hgd, hdt, hall⟩ := hh
  have hop : o.op = .move (.tmp t) := by
    cases h : o.op with
    | move x =>
      cases x with
      | tmp x => rw [h] at hop; simp at hop; rw [hop]
      | _ => rw [h] at hop; simp at hop
    | _ => rw [h] at hop; simp at hop
  have hdst : o.dst = some d := by simpa using hdst
  have hgd : o.guard = none := by simpa using hgd
  have hdt : d ≠ t := by simpa using hdt
  intro fuel
  induction fuel with
  | zero =>
    intro listed a w hf hl hcl h
    refine ⟨fun hr => ?_, fun i hi => ?_⟩
    · exfalso
      have : f ∈ Region.ready .any l.toArray listed := mem_ready.2 ⟨hl, o, by simpa using ho, fun e he hb => by
        have := Array.all_eq_true_iff_forall_mem.1 haf e he
        simp [hb] at this⟩
      rw [hr] at this; cases this
    · by_cases hif : i = f
      · subst hif
        unfold wpOp
        simp only [show l.toArray[i]? = some o by simpa using ho]
        have hw : Region.wanted o (yielded l.toArray a.tmps) = true := by unfold Region.wanted; rw [hgd]
        rw [if_pos hw]
        left
        unfold Oper.wp execOp
        simp only [hop, Sem.run_pure, Oper.upon, hdst]
        exact h
      · exfalso
        obtain ⟨hun, p, hp, hwait⟩ := mem_ready.1 hi
        have : i ∈ Region.ready .any l.toArray (listed.setIfInBounds f true) := mem_ready.2 ⟨by
          rw [Array.getD_eq_getD_getElem?, Array.getElem?_setIfInBounds_ne (Ne.symm hif), ← Array.getD_eq_getD_getElem?]; exact hun, p, hp, fun e he hb => by
          have h1 := hwait e he hb
          by_cases e2 : e.on = f
          · rw [e2] at h1
            simp [Array.getD_eq_getD_getElem?, hf] at h1 hl
            rw [hl] at h1; cases h1
          · rw [Array.getD_eq_getD_getElem?, Array.getElem?_setIfInBounds_ne (Ne.symm e2), ← Array.getD_eq_getD_getElem?]; exact h1⟩
        rw [h.1] at this; cases this
  | succ fuel ih =>
    intro listed a w hf hl hcl h
    refine ⟨fun hr => ?_, fun i hi => ?_⟩
    · exfalso
      have : f ∈ Region.ready .any l.toArray listed := mem_ready.2 ⟨hl, o, by simpa using ho, fun e he hb => by
        have := Array.all_eq_true_iff_forall_mem.1 haf e he
        simp [hb] at this⟩
      rw [hr] at this; cases this
    · by_cases hif : i = f
      · subst hif
        unfold wpOp
        simp only [show l.toArray[i]? = some o by simpa using ho]
        have hw : Region.wanted o (yielded l.toArray a.tmps) = true := by unfold Region.wanted; rw [hgd]
        rw [if_pos hw]
        left
        show o.wp P a w (wpAny P .any l.toArray (onlyN Q) (fuel + 1) (listed.setIfInBounds i true)) (onlyN Q)
        unfold Oper.wp execOp
        simp only [hop, Sem.run_pure, Oper.upon, hdst]
        exact h
      · obtain ⟨hun, p, hp, hwait⟩ := mem_ready.1 hi
        have hready : i ∈ Region.ready .any l.toArray (listed.setIfInBounds f true) := mem_ready.2 ⟨by
          rw [Array.getD_eq_getD_getElem?, Array.getElem?_setIfInBounds_ne (Ne.symm hif), ← Array.getD_eq_getD_getElem?]; exact hun, p, hp, fun e he hb => by
          have h1 := hwait e he hb
          by_cases e2 : e.on = f
          · rw [e2] at h1
            simp [Array.getD_eq_getD_getElem?, hf] at h1 hl
            rw [hl] at h1; cases h1
          · rw [Array.getD_eq_getD_getElem?, Array.getElem?_setIfInBounds_ne (Ne.symm e2), ← Array.getD_eq_getD_getElem?]; exact h1⟩
        have hpl : l[i]? = some p := by simpa using hp
        have hil : i < l.length := (List.getElem?_eq_some_iff.1 hpl).1
        have hbe := hall i (List.mem_range.2 hil)
        rw [hpl, Bool.or_eq_true, Bool.or_eq_true] at hbe
        have hna : ancB l i f ≠ true := by
          intro han
          unfold ancB at han
          cases hA : (ancAll l [])[i]? with
          | none => rw [hA] at han; simp at han
          | some A =>
            rw [hA] at han
            have h3 := anc_listed hB hcl hi hA f (by simpa using han)
            rw [Array.getD_eq_getD_getElem?, h3] at hl
            cases hl
        have hbe : besideOk l.toArray d t p = true := by
          rcases hbe with h1 | h1 | h1
          · exact absurd (by simpa using h1) hif
          · exact absurd h1 hna
          · exact h1
        simp only [besideOk, Bool.and_eq_true] at hbe
        obtain ⟨hlook, hpd, hpt, hsel⟩ := hbe
        have hns : ∀ cs b, p.op ≠ .select cs b := by
          intro cs b e; rw [e] at hsel; cases hsel
        have hlook : ∀ x ∈ p.looksAt l.toArray, x ≠ d := by
          intro x hx e
          subst e
          simp at hlook; exact hlook hx
        have hpd : p.dst ≠ some d := by simpa using hpd
        have hpt : p.dst ≠ some t := by simpa using hpt
        have hsees : ∀ x ∈ p.looksAt l.toArray, (a.put (some d) (a.eval (.tmp t))).tmps[x]? = a.tmps[x]? := by
          intro x hx
          rw [Act.put_at, if_neg (hlook x hx)]
        have h1 := h.2 i hready
        unfold wpOp at h1 ⊢
        simp only [hp] at h1 ⊢
        rw [wanted_sees p hsees] at h1
        have hset : (listed.setIfInBounds f true).setIfInBounds i true = (listed.setIfInBounds i true).setIfInBounds f true := Array.setIfInBounds_comm _ _ (Ne.symm hif)
        rw [hset] at h1
        have hl' : (listed.setIfInBounds i true).getD f true = false := by rw [Array.getD_eq_getD_getElem?, Array.getElem?_setIfInBounds_ne hif, ← Array.getD_eq_getD_getElem?]; exact hl
        have ev : ∀ (a' : Act) u, (a'.put p.dst u).eval (.tmp t) = a'.eval (.tmp t) := by
          intro a' u
          cases hd : p.dst with
          | none => rfl
          | some y =>
            show (a'.put (some y) u).tmps.getD t undef = a'.tmps.getD t undef
            rw [Array.getD_eq_getD_getElem?, Array.getD_eq_getD_getElem?, Act.put_at, if_neg (by intro e; subst e; exact hpt hd)]
        have hcl' : ∀ (q : Nat) (A : List Nat), (listed.setIfInBounds i true)[q]? = some true → (ancAll l [])[q]? = some A → ∀ j ∈ A, (listed.setIfInBounds i true)[j]? = some true := by
          intro q A hq hA j hj
          have hold : listed[j]? = some true := by
            by_cases e : q = i
            · subst e; exact anc_listed hB hcl hi hA j hj
            · rw [Array.getElem?_setIfInBounds_ne (Ne.symm e)] at hq
              exact hcl q A hq hA j hj
          by_cases e : j = i
          · subst e
            rw [Array.getD_eq_getD_getElem?, hold] at hun
            cases hun
          · rw [Array.getElem?_setIfInBounds_ne (Ne.symm e)]; exact hold
        have next : ∀ u w', wpAny P .any l.toArray (onlyN Q) fuel ((listed.setIfInBounds i true).setIfInBounds f true) ((a.put (some d) (a.eval (.tmp t))).put p.dst u) w' → wpAny P .any l.toArray (onlyN Q) (fuel + 1) (listed.setIfInBounds i true) (a.put p.dst u) w' := by
          intro u w' hk
          refine ih _ _ _ (by simpa using hf) hl' hcl' ?_
          rw [ev, Act.put_comm a u _ (fun x hx => by intro e; exact hpd (by rw [hx, Option.some.inj e]))]
          exact hk
        split
        · rename_i hw
          rw [if_pos hw] at h1
          rcases h1 with h1 | h1
          · left
            unfold Oper.wp at h1 ⊢
            rw [execOp_sees p hns hsees] at h1
            generalize (execOp a.eval p).run P w = r at h1 ⊢
            cases r with
            | ok n w' =>
              cases n <;> simp only [Oper.upon] at h1 ⊢
              case value u => exact next u w' h1
              case skip => exact next undef w' h1
              case defer dd =>
                refine ih _ _ _ (by simpa using hf) hl' hcl' ?_
                have e0 : ({ a with defers := dd :: a.defers } : Act).eval (.tmp t) = a.eval (.tmp t) := rfl
                rw [ev, e0, Act.put_comm _ undef _ (fun x hx => by intro e; exact hpd (by rw [hx, Option.some.inj e]))]
                exact h1
              case enter g args =>
                refine h1.mono fun e w'' he => ?_
                cases e with
                | returned u => exact next u w'' he
                | panicked c => exact absurd he.1 (by simp)
                | outgrown => exact (onlyN_lets he).elim
              case row r args => exact h1.mono fun u w'' he => next u w'' he
            | halt x w' =>
              cases x <;> simp only [Oper.upon] at h1 ⊢
              case panic v => exact absurd h1.1 (by simp)
          · exact (onlyN_lets h1.2).elim
        · rename_i hw
          rw [if_neg hw] at h1
          exact next undef w h1

/-- What stands from place m on comes behind all that stands ahead of it, but for the operation f. -/
def tailOkF (l : List Oper) (m f : Nat) : Bool :=
  ((List.range l.length).all fun t => decide (t < m) || (List.range t).all fun j => ancB l t j || j == f) && Region.seqB .any l.toArray (l.length - m) m (Array.replicate m true ++ Array.replicate (l.length - m) false)

theorem wpAny_invF {l : List Oper} {S : List Keep} {m f : Nat} (hS : S.length = m) (hml : m ≤ l.length) (hB : ancOk l (ancAll l []) = true) (hT : tailOkF l m f = true) {F : World → Prop} (hF : ∀ w w', Ext w w' → F w → F w') {a : Act} {Q : Exit → Act → World → Prop}
    (steps : ∀ vs, invSteps P l F S vs l S 0 a)
    (post : ∀ (vs : Nat → Value) w', F w' → (∀ (j : Nat) (s : Keep), S[j]? = some s → s.J (vs j) w') → wpList P l.toArray Q (l.drop m) (lexN l (vsAt S vs) a m) w') :
    ∀ (fuel : Nat) (listed : Array Bool) (vs : Nat → Value) (c : Act) (w : World), listed.size = l.length → listed.getD f true = true → cntF m (fun i => listed.getD i true) = fuel → (∀ i, m ≤ i → i < l.length → listed.getD i true = false) →
      (∀ (i : Nat) (A : List Nat), listed[i]? = some true → (ancAll l [])[i]? = some A → ∀ j ∈ A, listed[j]? = some true) →
      Agrees l a vs (fun j => listed.getD j true) c → F w → (∀ (j : Nat) (s : Keep), listed[j]? = some true → S[j]? = some s → s.J (vs j) w) → wpAny P .any l.toArray Q (fuel + (l.length - m)) listed c w := by
  -- what is known is what is there
  have known : ∀ (listed : Array Bool) (vs : Nat → Value) (w : World), (∀ (j : Nat) (s : Keep), listed[j]? = some true → S[j]? = some s → s.J (vs j) w) → ∀ j, listed[j]? = some true → vs j = vsAt S vs j := by
    intro listed vs w hI j hj
    unfold vsAt
    cases hs : S[j]? with
    | none => rfl
    | some s => exact (s.at_eq (hI j s hj hs)).symm
  have truth : ∀ {listed : Array Bool} {j : Nat}, listed.size = l.length → j < l.length → listed.getD j true = true → listed[j]? = some true := by
    intro listed j hsz hj h
    have h2 : j < listed.size := by omega
    simp [h2] at h ⊢
    exact h
  simp only [tailOkF, Bool.and_eq_true, List.all_eq_true] at hT
  -- the end
  have fin : ∀ (listed : Array Bool) (vs : Nat → Value) (c : Act) (w : World), listed.size = l.length → (∀ i, i < m → listed.getD i true = true) → (∀ i, m ≤ i → i < l.length → listed.getD i true = false) → Agrees l a vs (fun j => listed.getD j true) c → F w →
      (∀ (j : Nat) (s : Keep), listed[j]? = some true → S[j]? = some s → s.J (vs j) w) → wpAny P .any l.toArray Q (l.length - m) listed c w := by
    intro listed vs c w hsz hall hrest hag hFw hI
    have kn := known listed vs w hI
    have e : c = lexN l (vsAt S vs) a m := by
      refine Agrees.unique (hag.congr (vs' := vsAt S vs) (L' := fun j => listed.getD j true) (fun _ _ _ => rfl) (fun j hj => ?_)) ((Agrees.lex hB a (vsAt S vs) m hml).congr (fun j o ho => ?_) (fun _ _ => rfl))
      · by_cases hlt : j < l.length
        · exact kn j (truth hsz hlt hj)
        · unfold vsAt
          rw [List.getElem?_eq_none (by omega)]
          rfl
      · have hj : j < l.length := (List.getElem?_eq_some_iff.1 ho).1
        by_cases hjm : j < m
        · simp only [hall j hjm]
          simpa using hjm
        · simp only [hrest j (by omega) hj]
          simpa using hjm
    have el : listed = Array.replicate m true ++ Array.replicate (l.length - m) false := by
      apply Array.ext
      · simp; omega
      · intro i h1 h2
        have hil : i < l.length := by omega
        by_cases him : i < m
        · have := truth hsz hil (hall i him)
          rw [Array.getElem?_eq_getElem h1] at this
          rw [Option.some.inj this]
          simp [him]
        · have := hrest i (by omega) hil
          simp [h1] at this
          rw [this]
          simp [Array.getElem_append, him]
    have hseq : Region.seqB .any l.toArray (l.drop m).length m listed = true := by
      rw [el, List.length_drop]; exact hT.2
    have := wpAny_of_seq (P := P) (Q' := Q) (ops := l.toArray) (l.drop m) m listed c w (fun j => by simp) hseq (by
      rw [e]
      refine post vs w hFw fun j s hs => hI j s ?_ hs
      have hj : j < S.length := (List.getElem?_eq_some_iff.1 hs).1
      exact truth hsz (by omega) (hall j (by omega)))
    rwa [List.length_drop] at this
  intro fuel
  induction fuel with
  | zero =>
    intro listed vs c w hsz hfd hcnt hrest hcl hag hFw hI
    rw [Nat.zero_add]
    exact fin listed vs c w hsz (cntF_zero hcnt) hrest hag hFw hI
  | succ fuel ih =>
    intro listed vs c w hsz hfd hcnt hrest hcl hag hFw hI
    rw [show fuel + 1 + (l.length - m) = (fuel + (l.length - m)) + 1 by omega]
    have hsome : ∃ i, i < m ∧ listed.getD i true = false := by
      apply Classical.byContradiction
      intro hno
      have : cntF m (fun i => listed.getD i true) = 0 := by
        have h0 : ∀ n, n ≤ m → cntF n (fun i => listed.getD i true) = 0 := by
          intro n
          induction n with
          | zero => intro _; rfl
          | succ n ihn =>
            intro hn
            have : listed.getD n true = true := by
              cases hv : listed.getD n true with
              | true => rfl
              | false => exact absurd ⟨n, by omega, hv⟩ hno
            simp only [cntF, ihn (by omega), this]
            simp
        exact h0 m (Nat.le_refl _)
      omega
    refine ⟨fun hr => ?_, fun i hi => ?_⟩
    · exfalso
      obtain ⟨i, him, hun⟩ := hsome
      have := all_listed hB hr i (by omega)
      rw [this] at hun; cases hun
    have hil : i < l.length := by simpa using ready_bounds hi
    obtain ⟨hun, o, ho, hafter⟩ := mem_ready.1 hi
    have hol : l[i]? = some o := by simpa using ho
    obtain ⟨A, hA, hok⟩ := ancOk_at hB hol
    simp only [ancOk1, Bool.and_eq_true, List.all_eq_true, Array.any_eq_true] at hok
    have hns : ∀ cs b, o.op ≠ .select cs b := by
      have := hB
      simp only [ancOk, Bool.and_eq_true] at this
      exact fun cs b => Region.noSelect_spec this.1.2 i o cs b ho
    -- its forerunners are done
    have hAl : ∀ j ∈ A, listed[j]? = some true := by
      intro j hj
      have h1 := (hok.1.2 j hj)
      obtain ⟨k, hk, he⟩ := h1.2
      simp only [Bool.or_eq_true] at he
      have hl := hafter _ (Array.getElem_mem hk) he.1
      have hl' : listed[(o.after[k]'hk).on]? = some true := by
        cases hx : listed[(o.after[k]'hk).on]? with
        | none => simp [Array.getD_eq_getD_getElem?, hx] at hl
        | some b => simp [Array.getD_eq_getD_getElem?, hx] at hl; rw [hl]
      rcases he.2 with he | he
      · have : (o.after[k]'hk).on = j := by simpa using he
        rw [← this]; exact hl'
      · cases hB' : (ancAll l [])[(o.after[k]'hk).on]? with
        | none => rw [hB'] at he; simp at he
        | some B => rw [hB'] at he; exact hcl _ B hl' hB' j (by simpa using he)
    have hAL : ∀ j ∈ A, listed.getD j true = true := fun j hj => by simp [Array.getD_eq_getD_getElem?, hAl j hj]
    have him : i < m := by
      rcases Nat.lt_or_ge i m with h | h
      · exact h
      · exfalso
        obtain ⟨k, hkm, hkun⟩ := hsome
        have h1 := hT.1 i (by simpa using hil)
        simp only [Bool.or_eq_true, decide_eq_true_eq, List.all_eq_true] at h1
        rcases h1 with h1 | h1
        · omega
        · have h2 := h1 k (by simp; omega)
          rcases h2 with h2 | h2
          · unfold ancB at h2
            rw [hA] at h2
            have h3 := hAL k (by simpa using h2)
            rw [h3] at hkun; cases hkun
          · have h3 : k = f := by simpa using h2
            subst h3
            rw [hfd] at hkun; cases hkun
    -- the step's own law
    have hs : ∃ s, S[i]? = some s := ⟨S[i]'(by omega), List.getElem?_eq_getElem (by omega)⟩
    obtain ⟨s, hs⟩ := hs
    have law := invSteps_at (l0 := l) l S 0 (fun j => by rw [Nat.zero_add]) (fun j => by rw [Nat.zero_add]) (steps vs) i o s hol hs w hFw (fun j hj => by
      have hjA : j ∈ A := by
        unfold ancB at hj
        rw [Nat.zero_add, hA] at hj
        simpa using hj
      have h1 := hAl j hjA
      cases hsj : S[j]? with
      | none => simp
      | some s' => simp only [Option.map_some, Option.getD_some]; exact hI j s' h1 hsj)
    rw [Nat.zero_add] at law
    have hag' : Agrees l a (vsAt S vs) (fun j => listed.getD j true) c := hag.congr (fun _ _ _ => rfl) (fun j hj => by
      by_cases hlt : j < l.length
      · exact known listed vs w hI j (truth hsz hlt hj)
      · unfold vsAt
        rw [List.getElem?_eq_none (by omega)]
        rfl)
    have hsees := Agrees.sees hB hol hA hag' ((Agrees.lex hB a (vsAt S vs) i (by omega))) hAL (fun j hj => by
      have := anc_lt hB i i (Nat.le_refl _) o A hol hA j hj
      simpa using this) (fun j B hjB hiB => by
      -- what waits for it isn't done
      cases hL : listed.getD j true with
      | false => rfl
      | true =>
        exfalso
        have hjl : j < l.length := by
          have h1 : (ancAll l []).length = l.length := by
            have := hB
            simp only [ancOk, Bool.and_eq_true] at this
            have h2 := this.1.1
            simpa using (beq_iff_eq.1 h2).symm
          have := (List.getElem?_eq_some_iff.1 hjB).1
          omega
        have h1 := hcl j B (truth hsz hjl hL) hjB i hiB
        simp [Array.getD_eq_getD_getElem?, h1] at hun) (fun j B hjB hiB => by
      have hjl : j < l.length := by
        have h1 : (ancAll l []).length = l.length := by
          have := hB
          simp only [ancOk, Bool.and_eq_true] at this
          have h2 := this.1.1
          simpa using (beq_iff_eq.1 h2).symm
        have := (List.getElem?_eq_some_iff.1 hjB).1
        omega
      have := anc_lt hB j j (Nat.le_refl _) l[j] B (List.getElem?_eq_getElem hjl) hjB i hiB
      simp; omega)
    -- what comes behind
    have next : ∀ v w', Ext w w' → s.J v w' → wpAny P .any l.toArray Q (fuel + (l.length - m)) (listed.setIfInBounds i true) (c.put o.dst v) w' := by
      intro v w' hext hJ
      have hset : ∀ j, j ≠ i → (listed.setIfInBounds i true)[j]? = listed[j]? := fun j hj => by rw [Array.getElem?_setIfInBounds_ne (Ne.symm hj)]
      have hseti : (listed.setIfInBounds i true)[i]? = some true := by simp [hsz, hil]
      refine ih (listed.setIfInBounds i true) (fun j => if j = i then v else vs j) (c.put o.dst v) w' (by simp [hsz]) ?fd ?_ (fun k hk hkl => by
        rw [Array.getD_eq_getD_getElem?, hset k (by omega), ← Array.getD_eq_getD_getElem?]; exact hrest k hk hkl) ?_ ?_ (hF _ _ hext hFw) ?_
      case fd =>
        by_cases hfi : f = i
        · rw [hfi]; simp [Array.getD_eq_getD_getElem?, hseti]
        · rw [Array.getD_eq_getD_getElem?, hset f hfi, ← Array.getD_eq_getD_getElem?]; exact hfd
      · have := cntF_set (n := m) (i := i) (L := fun j => listed.getD j true) (L' := fun j => (listed.setIfInBounds i true).getD j true) him hun
          (by simp [Array.getD_eq_getD_getElem?, hseti]) (fun j hj => by simp only [Array.getD_eq_getD_getElem?, hset j hj])
        omega
      · intro k B hk hB' j hj
        by_cases hki : k = i
        · subst hki
          rw [hA] at hB'; cases hB'
          by_cases hji : j = k
          · rw [hji]; exact hseti
          · rw [hset j hji]; exact hAl j hj
        · rw [hset k hki] at hk
          have := hcl k B hk hB' j hj
          by_cases hji : j = i
          · rw [hji]; exact hseti
          · rw [hset j hji]; exact this
      · exact Agrees.step hB hol v hag (fun j hj => by simp only [Array.getD_eq_getD_getElem?, hset j hj]) (by simp [Array.getD_eq_getD_getElem?, hseti]) (by simp) (fun j hj => by simp [hj])
      · intro j s' hj hs'
        by_cases hji : j = i
        · subst hji
          rw [hs] at hs'; cases hs'
          simpa using hJ
        · rw [hset j hji] at hj
          simp only [hji, if_false]
          exact s'.ok _ _ _ hext (hI j s' hj hs')
    unfold wpOp
    simp only [ho]
    rw [wanted_sees o hsees]
    split
    · rename_i hw
      rw [if_pos hw] at law
      refine .inl ?_
      unfold Oper.leavesAt at law
      unfold Oper.wp
      rw [execOp_sees o hns hsees]
      generalize (execOp (lexN l (vsAt S vs) a i).eval o).run P w = r at law ⊢
      cases r with
      | ok n w' =>
        cases n <;> simp only [Oper.leaves] at law <;> simp only [Oper.upon]
        case value u => exact next u w' law.1 law.2
        case skip => exact next undef w' law.1 law.2
        case enter f args =>
          refine law.2.mono fun e w'' he => ?_
          obtain ⟨v, rfl, hext, hJ⟩ := he
          exact next v w'' (law.1.trans hext) hJ
      | halt x w' => simp only [Oper.leaves] at law
    · rename_i hw
      rw [if_neg hw] at law
      exact next undef w (Ext.refl w) law

/-- An append whose run is known leaves what it leaves. -/
theorem leaves_append {I : Value → World → Prop} {o : Oper} {c : Act} {w w' : World} {s x : Operand} {t : TypeId} {v1 v2 v' : Value} (hg : o.guard = none) (ho : o.op = .call { callee := .builtin .append, args := #[s, x], argTypes := #[t, t] }) {ops : Array Oper} {els : Prop}
    (hr : (Builtin.append_ #[t, t] o.type #[v1, v2]).run P w = .ok v' w') (hE : Ext w w') (hJ : I v' w') (hs : c.eval s = v1) (hx : c.eval x = v2) :
    if Region.wanted o (yielded ops c.tmps) = true then o.leavesAt P I c w else els := by
  rw [if_pos (by unfold Region.wanted; rw [hg])]
  unfold Oper.leavesAt execOp
  simp only [ho, resolve, invoke, builtin, Sem.run_bind, Sem.run_pure, Result.andThen_ok, List.map_toArray, List.map_cons, List.map_nil, hs, hx, hr, Oper.leaves]
  exact ⟨hE, hJ⟩

/-- **ONE WALK IN THE TEXT's ORDER**, where all but the last operations make new memory at most, and the last ones come behind all of these but for one move. -/
theorem wp_region_hoist {id : Nat} {l : List Oper} {Q : Exit → Act → World → Prop} {a : Act} {w : World} (hm : P.follows .mixedOrders = true) (f d t : Nat) (m : Nat) (S : List Keep) (hS : S.length = m) (hml : m ≤ l.length) (hfm : f < m) (hh : hoistOk l f d t = true) (hB : ancOk l (ancAll l []) = true) (hT : tailOkF l m f = true)
    (hSf : ∀ s v w, S[f]? = some s → v = a.eval (.tmp t) → s.J v w)
    (steps : ∀ vs, invSteps P l (fun w' => Ext w w') S vs l S 0 a)
    (post : ∀ (vs : Nat → Value) w', Ext w w' → (∀ (j : Nat) (s : Keep), S[j]? = some s → s.J (vs j) w') → wpList P l.toArray (onlyN Q) (l.drop m) (lexGo vs l S 0 a) w') : (Code.region id l.toArray true).wp P Q a w := by
  refine Code.wp_mono (Q := onlyN Q) (fun e a w h => h.1 ▸ h.2) ?_
  refine wp_region_any hm ?_
  have post : ∀ (vs : Nat → Value) w', Ext w w' → (∀ (j : Nat) (s : Keep), S[j]? = some s → s.J (vs j) w') → wpList P l.toArray (onlyN Q) (l.drop m) (lexN l (vsAt S vs) a m) w' := fun vs w' h1 h2 => by
    have := post vs w' h1 h2
    rw [show lexGo vs l S 0 a = lexN l (vsAt S vs) a (0 + S.length) from lexGo_eq l S 0 (fun j => by rw [Nat.zero_add]) (fun j => by rw [Nat.zero_add]) (by omega), Nat.zero_add, hS] at this
    exact this
  have hfl : f < l.length := by omega
  have hz : ∀ j, j < l.length → (Array.replicate l.toArray.size false).getD j true = false := fun j hj => by simp [Array.getD_eq_getD_getElem?, hj]
  have hfd : f < (Array.replicate l.toArray.size false).size := by simpa using hfl
  have hz2 : ∀ j, j < l.length → j ≠ f → ((Array.replicate l.toArray.size false).setIfInBounds f true).getD j true = false := fun j hj hjf => by
    rw [Array.getD_eq_getD_getElem?, Array.getElem?_setIfInBounds_ne (Ne.symm hjf), ← Array.getD_eq_getD_getElem?]; exact hz j hj
  have hf2 : ((Array.replicate l.toArray.size false).setIfInBounds f true)[f]? = some true := by rw [Array.getElem?_setIfInBounds_self_of_lt hfd]
  have hc : cntF m (fun i => ((Array.replicate l.toArray.size false).setIfInBounds f true).getD i true) + 1 = m := by
    have h0 : cntF m (fun i => (Array.replicate l.toArray.size false).getD i true) = m := by
      have : ∀ n, n ≤ l.length → cntF n (fun i => (Array.replicate l.toArray.size false).getD i true) = n := by
        intro n
        induction n with
        | zero => intro _; rfl
        | succ n ih =>
          intro hn
          simp only [cntF, ih (by omega), hz n (by omega)]
          simp
      exact this m hml
    have := cntF_set (n := m) (i := f) (L := fun i => (Array.replicate l.toArray.size false).getD i true) (L' := fun i => ((Array.replicate l.toArray.size false).setIfInBounds f true).getD i true) hfm (hz f hfl)
      (by simp only [Array.getD_eq_getD_getElem?, hf2]; rfl) (fun j hj => by simp only [Array.getD_eq_getD_getElem?, Array.getElem?_setIfInBounds_ne (Ne.symm hj)])
    omega
  have hhh := hh
  cases ho : l[f]? with
  | none => simp [hoistOk, ho] at hh
  | some o =>
  simp only [hoistOk, ho, Bool.and_eq_true, List.all_eq_true] at hh
  obtain ⟨hop, hdst, haf, hgd, hdt, hall⟩ := hh
  have hdst : o.dst = some d := by simpa using hdst
  have hfin : l.toArray.size = (cntF m (fun i => ((Array.replicate l.toArray.size false).setIfInBounds f true).getD i true) + (l.length - m)) + 1 := by simp at hc ⊢; omega
  rw [hfin]
  refine wpAny_hoist hhh hB _ _ _ _ (by rw [← hfin]; exact hfd) (by rw [← hfin]; exact hz f hfl) (fun i A hi => by simp [Array.getElem?_replicate] at hi) ?_
  rw [← hfin]
  have hdf : dstOf l d = some f := by
    obtain ⟨A, hA, hok⟩ := ancOk_at hB ho
    simp only [ancOk1, Bool.and_eq_true] at hok
    have h1 := hok.1.1.1
    rw [hdst] at h1
    simpa using h1
  have hag0 : Agrees l a (fun _ => undef) (fun j => (Array.replicate l.toArray.size false).getD j true) a := by
    refine ⟨rfl, fun t => ?_⟩
    cases hj : dstOf l t with
    | none => rfl
    | some j =>
      obtain ⟨o, ho, _⟩ := dstOf_some hj
      have : j < l.length := (List.getElem?_eq_some_iff.1 ho).1
      simp [Array.getD_eq_getD_getElem?, this]
  have hag := Agrees.step hB ho (a.eval (.tmp t)) hag0 (vs' := fun j => if j = f then a.eval (.tmp t) else undef) (L' := fun j => ((Array.replicate l.toArray.size false).setIfInBounds f true).getD j true)
    (fun j hj => by simp only [Array.getD_eq_getD_getElem?, Array.getElem?_setIfInBounds_ne (Ne.symm hj)]) (by simp only [Array.getD_eq_getD_getElem?, hf2]; rfl) (by simp) (fun j hj => by simp [hj])
  rw [hdst] at hag
  refine wpAny_invF hS hml hB hT (F := fun w' => Ext w w') (fun _ _ h h' => h'.trans h) steps post _ _ (fun j => if j = f then a.eval (.tmp t) else undef) _ _ (by simp) (by simp only [Array.getD_eq_getD_getElem?, hf2]; rfl) rfl (fun i hi hil => hz2 i hil (by omega)) ?_ hag (Ext.drew w) ?_
  · intro i A hi hA j hj
    have hif : i = f := by
      apply Classical.byContradiction
      intro hne
      rw [Array.getElem?_setIfInBounds_ne (Ne.symm hne)] at hi
      simp [Array.getElem?_replicate] at hi
    subst hif
    obtain ⟨A', hA', hok⟩ := ancOk_at hB ho
    rw [hA] at hA'; cases hA'
    simp only [ancOk1, Bool.and_eq_true, List.all_eq_true, Array.any_eq_true] at hok
    obtain ⟨k, hk, he⟩ := (hok.1.2 j hj).2
    have := Array.all_eq_true_iff_forall_mem.1 haf _ (Array.getElem_mem hk)
    rw [he.1] at this
    cases this
  · intro j s hj hs
    have hjf : j = f := by
      apply Classical.byContradiction
      intro hne
      rw [Array.getElem?_setIfInBounds_ne (Ne.symm hne)] at hj
      simp [Array.getElem?_replicate] at hj
    subst hjf
    exact hSf s _ _ hs (by simp)
end
end Go

/- Tables that a call itself makes: rows of one-cell elements in blocks of their own. No dump is imported. -/
namespace Go
open Go.RowKit

/-- v is a row of rows: the row's cells fs, and what each of them reads as -/
structure Tab (w : World) (B : Nat) (T E : TypeId) (v : Value) (fs : List Value) (t : List (List Value)) : Prop where
  own : Own w B T v fs
  len : fs.length = t.length
  row : ∀ (i : Nat) (x : Value), fs[i]? = some x → Own w B E x (t.getD i [])
  ptr : ∀ (i : Nat) (x : Value), fs[i]? = some x → ∃ g n c, x = .slice (some ⟨g, 0, none⟩) n c
  apart : ∀ (i : Nat) (x : Value) (k : Nat), fs[i]? = some x → x.ownBlock = some k → v.ownBlock ≠ some k

theorem Tab.ext {w w' : World} {B : Nat} {T E : TypeId} {v : Value} {fs : List Value} {t : List (List Value)} (h : Tab w B T E v fs t) (hx : Ext w w') : Tab w' B T E v fs t :=
  ⟨h.own.ext hx, h.len, fun i x hi => (h.row i x hi).ext hx, h.ptr, h.apart⟩

theorem Tab.spot {w : World} {B : Nat} {T E : TypeId} {g N cap : Nat} {fs : List Value} {t : List (List Value)} (h : Tab w B T E (.slice (some ⟨g, 0, none⟩) N cap) fs t) (i : Nat) (hi : i < t.length) :
    ∃ gi ci, w.cell? ⟨g, i, none⟩ = some (.slice (some ⟨gi, 0, none⟩) (t.getD i []).length ci) ∧ Own w B E (.slice (some ⟨gi, 0, none⟩) (t.getD i []).length ci) (t.getD i []) := by
  have hif : i < fs.length := by rw [h.len]; exact hi
  have h0 := h.own.cell i hif
  have h1 := h.row i fs[i] (by simp [hif])
  obtain ⟨gi, n, c, e⟩ := h.ptr i fs[i] (by simp [hif])
  rw [e] at h0 h1
  have hn := h1.len
  subst hn
  exact ⟨gi, c, h0, h1⟩

/-- an empty table -/
theorem Tab.nil {w : World} {B : Nat} {T E : TypeId} {v : Value} (h : Own w B T v []) : Tab w B T E v [] [] :=
  ⟨h, rfl, fun i x hi => by simp at hi, fun i x hi => by simp at hi, fun i x k hi => by simp at hi⟩

/-- one row more -/
theorem Tab.push {w w' : World} {B : Nat} {T E : TypeId} {v v' x : Value} {fs : List Value} {t : List (List Value)} {r : List Value} (h : Tab w B T E v fs t) (hr : Own w B E x r) (hs : ∃ g n c, x = .slice (some ⟨g, 0, none⟩) n c) (hne : ∀ k, x.ownBlock = some k → v.ownBlock ≠ some k)
    (hown : Own w' B T v' (fs ++ [x])) (hg : w.grownBy w' v.ownBlock ∧ Moved w v v') : Tab w' B T E v' (fs ++ [x]) (t ++ [r]) := by
  have apart' : ∀ y k, (∀ k, y.ownBlock = some k → v.ownBlock ≠ some k) → (∃ f, Own w B E y f) → y.ownBlock = some k → v'.ownBlock ≠ some k := by
    intro y k hy ⟨f, hf⟩ hk
    rcases hg.2 with hm | hm
    · rw [hm]; exact hy k hk
    · intro hv'
      have h1 := hm k hv'
      have h2 := (World.ownsRow.lt hf k hk).2
      omega
  have split : ∀ i y, (fs ++ [x])[i]? = some y → (i < fs.length ∧ fs[i]? = some y) ∨ (i = fs.length ∧ y = x) := by
    intro i y hi
    by_cases hlt : i < fs.length
    · rw [List.getElem?_append_left hlt] at hi
      exact .inl ⟨hlt, hi⟩
    · rw [List.getElem?_append_right (by omega)] at hi
      have : i - fs.length = 0 := by
        have := (List.getElem?_eq_some_iff.1 hi).1
        simp at this
        omega
      rw [this] at hi
      simp at hi
      exact .inr ⟨by omega, hi.symm⟩
  have hlen := h.len
  refine ⟨hown, by simp [hlen], fun i y hi => ?_, fun i y hi => ?_, fun i y k hi hk => ?_⟩
  · rcases split i y hi with ⟨hlt, hi⟩ | ⟨rfl, rfl⟩
    · have e : (t ++ [r]).getD i [] = t.getD i [] := by
        rw [List.getD_eq_getElem?_getD, List.getD_eq_getElem?_getD, List.getElem?_append_left (by omega)]
      rw [e]
      exact GB.own hg.1 (h.row i y hi) (fun k hk => h.apart i y k hi hk)
    · have e : (t ++ [r]).getD fs.length [] = r := by
        rw [List.getD_eq_getElem?_getD, List.getElem?_append_right (by omega), hlen, Nat.sub_self]
        rfl
      rw [e]
      exact GB.own hg.1 hr hne
  · rcases split i y hi with ⟨hlt, hi⟩ | ⟨rfl, rfl⟩
    · exact h.ptr i y hi
    · exact hs
  · rcases split i y hi with ⟨hlt, hi⟩ | ⟨rfl, rfl⟩
    · exact apart' y k (fun k hk => h.apart i y k hi hk) ⟨_, h.row i y hi⟩ hk
    · exact apart' y k hne ⟨_, hr⟩ hk

/-- truth values as cells -/
def tcells (l : List Bool) : List Value := l.map Value.bool
theorem tcells_length (l : List Bool) : (tcells l).length = l.length := by simp [tcells]
theorem tcells_at (l : List Bool) (j : Nat) (h : j < l.length) : (tcells l)[j]'(by rw [tcells_length]; exact h) = .bool (l.getD j false) := by
  simp [tcells, List.getD_eq_getElem?_getD, List.getElem?_eq_getElem h]
theorem tcells_set (l : List Bool) (j : Nat) (x : Bool) : (tcells l).set j (.bool x) = tcells (l.set j x) := by simp [tcells, List.map_set]
theorem tcells_replicate (n : Nat) (x : Bool) : tcells (List.replicate n x) = List.replicate n (.bool x) := by simp [tcells]
end Go

/- A region that asks the tape for its order, walked once, where each operation keeps a relation of worlds that is given: the laws of Tools with that relation in place of 'memory has only grown'. No dump is imported. -/
namespace Go
open Go.RowKit

/-- a relation of worlds that may be carried on, and that a draw keeps -/
structure Rel where
  r : World → World → Prop
  refl : ∀ w, r w w
  trans : ∀ {a b c}, r a b → r b c → r a c
  drew : ∀ w, r w w.drew
variable {R : Rel}

/-- What is said of a slot's value, and stays true while memory grows. -/
structure KeepR (R : Rel) where
  J : Value → World → Prop
  ok : ∀ v w w', R.r w w' → J v w → J v w'
  val : Option Value
  hval : ∀ c, val = some c → ∀ v w, J v w → v = c

@[go_sem] def KeepR.known (c : Value) : KeepR R := ⟨fun v _ => v = c, fun _ _ _ _ h => h, some c, fun _ e _ _ h => h.trans (Option.some.inj e)⟩
@[go_sem] def KeepR.any : (KeepR R) := ⟨fun _ _ => True, fun _ _ _ _ h => h, none, fun _ e => by cases e⟩
@[go_sem] def KeepR.such (J : Value → World → Prop) (ok : ∀ v w w', R.r w w' → J v w → J v w') : (KeepR R) := ⟨J, ok, none, fun _ e => by cases e⟩
/-- the value, where it is known beforehand -/
@[go_sem] def KeepR.at (s : (KeepR R)) (v : Value) : Value := s.val.getD v
theorem KeepR.at_eq (s : (KeepR R)) {v : Value} {w : World} (h : s.J v w) : s.at v = v := by
  unfold KeepR.at
  cases hc : s.val with
  | none => rfl
  | some c => exact (s.hval c hc v w h).symm


section
variable {P : Program}
/-- What an operation leaves behind: its value keeps what is said of it, and memory has only grown. -/
@[go_sem] def Oper.leavesR (R : Rel) (P : Program) (I : Value → World → Prop) (w : World) : Result Next → Prop
  | .ok (.value u) w' => R.r w w' ∧ I u w'
  | .ok .skip w' => R.r w w' ∧ I undef w'
  | .ok (.enter f args) w' => R.r w w' ∧ Calls P f args w' (fun e w'' => ∃ v, e = .returned v ∧ R.r w' w'' ∧ I v w'')
  | _ => False

@[go_sem] def Oper.leavesAtR (R : Rel) (P : Program) (I : Value → World → Prop) (o : Oper) (c : Act) (w : World) : Prop := Oper.leavesR R P I w ((execOp c.eval o).run P w)

/-- What of the slots is known, in a place. -/
def vsAtR (S : List (KeepR R)) (vs : Nat → Value) (j : Nat) : Value := ((S[j]?).map (fun s => s.at (vs j))).getD (vs j)

/-- A region's operations in the text's order, each with what is said of its value. -/
def invStepsR (P : Program) (ops : List Oper) (F : World → Prop) (S : List (KeepR R)) (vs : Nat → Value) : List Oper → List (KeepR R) → Nat → Act → Prop
  | o :: rest, s :: srest, i, c =>
    (∀ w', F w' → (∀ j, ancB ops i j = true → ((S[j]?).map (fun s => s.J (vs j) w')).getD True) → if Region.wanted o (yielded ops.toArray c.tmps) = true then Oper.leavesAtR R P s.J o c w' else s.J undef w') ∧
    invStepsR P ops F S vs rest srest (i + 1) (c.put o.dst (s.at (vs i)))
  | _, _, _, _ => True

theorem invSteps_atR {F : World → Prop} {S0 : List (KeepR R)} {vs : Nat → Value} {l0 : List Oper} {a : Act} : ∀ (l : List Oper) (S : List (KeepR R)) (k : Nat),
    (∀ j, l[j]? = l0[k + j]?) → (∀ j, S[j]? = S0[k + j]?) → invStepsR P l0 F S0 vs l S k (lexN l0 (vsAtR S0 vs) a k) → ∀ i o s, l[i]? = some o → S[i]? = some s →
    ∀ w', F w' → (∀ j, ancB l0 (k + i) j = true → ((S0[j]?).map (fun s => s.J (vs j) w')).getD True) →
      if Region.wanted o (yielded l0.toArray (lexN l0 (vsAtR S0 vs) a (k + i)).tmps) = true then Oper.leavesAtR R P s.J o (lexN l0 (vsAtR S0 vs) a (k + i)) w' else s.J undef w'
  | [], _, _, _, _, _, i, o, s, hi, _ => by simp at hi
  | o' :: l, [], _, _, _, _, i, o, s, _, hs => by simp at hs
  | o' :: l, s' :: S, k, hl, hS, h, 0, o, s, hi, hs => by
    simp only [List.getElem?_cons_zero, Option.some.injEq] at hi hs
    subst hi; subst hs
    exact h.1
  | o' :: l, s' :: S, k, hl, hS, h, i + 1, o, s, hi, hs => by
    have h0 : l0[k]? = some o' := by simpa using (hl 0).symm
    have s0 : S0[k]? = some s' := by simpa using (hS 0).symm
    have := invSteps_atR l S (k + 1) (fun j => by have := hl (j + 1); simpa [Nat.add_assoc, Nat.add_comm 1 j] using this) (fun j => by have := hS (j + 1); simpa [Nat.add_assoc, Nat.add_comm 1 j] using this)
      (by simpa [lexN, h0, vsAtR, s0] using h.2) i o s (by simpa using hi) (by simpa using hs)
    have e : k + 1 + i = k + (i + 1) := by omega
    rw [e] at this
    exact this

/-- The frame behind the region. -/
def lexGoR (vs : Nat → Value) : List Oper → List (KeepR R) → Nat → Act → Act
  | o :: rest, s :: srest, i, c => lexGoR vs rest srest (i + 1) (c.put o.dst (s.at (vs i)))
  | _, _, _, c => c
@[go_sem] theorem lexGo_consR (vs : Nat → Value) (o : Oper) (rest : List Oper) (s : (KeepR R)) (srest : List (KeepR R)) (i : Nat) (c : Act) : lexGoR vs (o :: rest) (s :: srest) i c = lexGoR vs rest srest (i + 1) (c.put o.dst (s.at (vs i))) := rfl
@[go_sem] theorem lexGo_nilR (vs : Nat → Value) (l : List Oper) (i : Nat) (c : Act) : lexGoR vs l ([] : List (KeepR R)) i c = c := by cases l <;> rfl

theorem lexGo_eqR {S0 : List (KeepR R)} {vs : Nat → Value} {l0 : List Oper} {a : Act} : ∀ (l : List Oper) (S : List (KeepR R)) (k : Nat),
    (∀ j, l[j]? = l0[k + j]?) → (∀ j, S[j]? = S0[k + j]?) → S.length ≤ l.length → lexGoR vs l S k (lexN l0 (vsAtR S0 vs) a k) = lexN l0 (vsAtR S0 vs) a (k + S.length)
  | l, [], _, _, _, _ => by rw [lexGo_nilR]; rfl
  | [], _ :: _, _, _, _, h => by simp at h
  | o :: l, s :: S, k, hl, hS, h => by
    have h0 : l0[k]? = some o := by simpa using (hl 0).symm
    have s0 : S0[k]? = some s := by simpa using (hS 0).symm
    have := lexGo_eqR (vs := vs) (l0 := l0) (S0 := S0) (a := a) l S (k + 1) (fun j => by have := hl (j + 1); simpa [Nat.add_assoc, Nat.add_comm 1 j] using this) (fun j => by have := hS (j + 1); simpa [Nat.add_assoc, Nat.add_comm 1 j] using this) (by simpa using h)
    have e : k + (s :: S).length = k + 1 + S.length := by simp; omega
    rw [e, ← this]
    simp [lexGoR, lexN, h0, vsAtR, s0]

theorem wpAny_invR {l : List Oper} {S : List (KeepR R)} {m : Nat} (hS : S.length = m) (hml : m ≤ l.length) (hB : ancOk l (ancAll l []) = true) (hT : tailOk l m = true) {F : World → Prop} (hF : ∀ w w', R.r w w' → F w → F w') {a : Act} {Q : Exit → Act → World → Prop}
    (steps : ∀ vs, invStepsR P l F S vs l S 0 a)
    (post : ∀ (vs : Nat → Value) w', F w' → (∀ (j : Nat) (s : (KeepR R)), S[j]? = some s → s.J (vs j) w') → wpList P l.toArray Q (l.drop m) (lexN l (vsAtR S vs) a m) w') :
    ∀ (fuel : Nat) (listed : Array Bool) (vs : Nat → Value) (c : Act) (w : World), listed.size = l.length → cntF m (fun i => listed.getD i true) = fuel → (∀ i, m ≤ i → i < l.length → listed.getD i true = false) →
      (∀ (i : Nat) (A : List Nat), listed[i]? = some true → (ancAll l [])[i]? = some A → ∀ j ∈ A, listed[j]? = some true) →
      Agrees l a vs (fun j => listed.getD j true) c → F w → (∀ (j : Nat) (s : (KeepR R)), listed[j]? = some true → S[j]? = some s → s.J (vs j) w) → wpAny P .any l.toArray Q (fuel + (l.length - m)) listed c w := by
  -- what is known is what is there
  have known : ∀ (listed : Array Bool) (vs : Nat → Value) (w : World), (∀ (j : Nat) (s : (KeepR R)), listed[j]? = some true → S[j]? = some s → s.J (vs j) w) → ∀ j, listed[j]? = some true → vs j = vsAtR S vs j := by
    intro listed vs w hI j hj
    unfold vsAtR
    cases hs : S[j]? with
    | none => rfl
    | some s => exact (s.at_eq (hI j s hj hs)).symm
  have truth : ∀ {listed : Array Bool} {j : Nat}, listed.size = l.length → j < l.length → listed.getD j true = true → listed[j]? = some true := by
    intro listed j hsz hj h
    have h2 : j < listed.size := by omega
    simp [h2] at h ⊢
    exact h
  simp only [tailOk, Bool.and_eq_true, List.all_eq_true] at hT
  -- the end
  have fin : ∀ (listed : Array Bool) (vs : Nat → Value) (c : Act) (w : World), listed.size = l.length → (∀ i, i < m → listed.getD i true = true) → (∀ i, m ≤ i → i < l.length → listed.getD i true = false) → Agrees l a vs (fun j => listed.getD j true) c → F w →
      (∀ (j : Nat) (s : (KeepR R)), listed[j]? = some true → S[j]? = some s → s.J (vs j) w) → wpAny P .any l.toArray Q (l.length - m) listed c w := by
    intro listed vs c w hsz hall hrest hag hFw hI
    have kn := known listed vs w hI
    have e : c = lexN l (vsAtR S vs) a m := by
      refine Agrees.unique (hag.congr (vs' := vsAtR S vs) (L' := fun j => listed.getD j true) (fun _ _ _ => rfl) (fun j hj => ?_)) ((Agrees.lex hB a (vsAtR S vs) m hml).congr (fun j o ho => ?_) (fun _ _ => rfl))
      · by_cases hlt : j < l.length
        · exact kn j (truth hsz hlt hj)
        · unfold vsAtR
          rw [List.getElem?_eq_none (by omega)]
          rfl
      · have hj : j < l.length := (List.getElem?_eq_some_iff.1 ho).1
        by_cases hjm : j < m
        · simp only [hall j hjm]
          simpa using hjm
        · simp only [hrest j (by omega) hj]
          simpa using hjm
    have el : listed = Array.replicate m true ++ Array.replicate (l.length - m) false := by
      apply Array.ext
      · simp; omega
      · intro i h1 h2
        have hil : i < l.length := by omega
        by_cases him : i < m
        · have := truth hsz hil (hall i him)
          rw [Array.getElem?_eq_getElem h1] at this
          rw [Option.some.inj this]
          simp [him]
        · have := hrest i (by omega) hil
          simp [h1] at this
          rw [this]
          simp [Array.getElem_append, him]
    have hseq : Region.seqB .any l.toArray (l.drop m).length m listed = true := by
      rw [el, List.length_drop]; exact hT.2
    have := wpAny_of_seq (P := P) (Q' := Q) (ops := l.toArray) (l.drop m) m listed c w (fun j => by simp) hseq (by
      rw [e]
      refine post vs w hFw fun j s hs => hI j s ?_ hs
      have hj : j < S.length := (List.getElem?_eq_some_iff.1 hs).1
      exact truth hsz (by omega) (hall j (by omega)))
    rwa [List.length_drop] at this
  intro fuel
  induction fuel with
  | zero =>
    intro listed vs c w hsz hcnt hrest hcl hag hFw hI
    rw [Nat.zero_add]
    exact fin listed vs c w hsz (cntF_zero hcnt) hrest hag hFw hI
  | succ fuel ih =>
    intro listed vs c w hsz hcnt hrest hcl hag hFw hI
    rw [show fuel + 1 + (l.length - m) = (fuel + (l.length - m)) + 1 by omega]
    have hsome : ∃ i, i < m ∧ listed.getD i true = false := by
      apply Classical.byContradiction
      intro hno
      have : cntF m (fun i => listed.getD i true) = 0 := by
        have h0 : ∀ n, n ≤ m → cntF n (fun i => listed.getD i true) = 0 := by
          intro n
          induction n with
          | zero => intro _; rfl
          | succ n ihn =>
            intro hn
            have : listed.getD n true = true := by
              cases hv : listed.getD n true with
              | true => rfl
              | false => exact absurd ⟨n, by omega, hv⟩ hno
            simp only [cntF, ihn (by omega), this]
            simp
        exact h0 m (Nat.le_refl _)
      omega
    refine ⟨fun hr => ?_, fun i hi => ?_⟩
    · exfalso
      obtain ⟨i, him, hun⟩ := hsome
      have := all_listed hB hr i (by omega)
      rw [this] at hun; cases hun
    have hil : i < l.length := by simpa using ready_bounds hi
    obtain ⟨hun, o, ho, hafter⟩ := mem_ready.1 hi
    have hol : l[i]? = some o := by simpa using ho
    obtain ⟨A, hA, hok⟩ := ancOk_at hB hol
    simp only [ancOk1, Bool.and_eq_true, List.all_eq_true, Array.any_eq_true] at hok
    have hns : ∀ cs b, o.op ≠ .select cs b := by
      have := hB
      simp only [ancOk, Bool.and_eq_true] at this
      exact fun cs b => Region.noSelect_spec this.1.2 i o cs b ho
    -- its forerunners are done
    have hAl : ∀ j ∈ A, listed[j]? = some true := by
      intro j hj
      have h1 := (hok.1.2 j hj)
      obtain ⟨k, hk, he⟩ := h1.2
      simp only [Bool.or_eq_true] at he
      have hl := hafter _ (Array.getElem_mem hk) he.1
      have hl' : listed[(o.after[k]'hk).on]? = some true := by
        cases hx : listed[(o.after[k]'hk).on]? with
        | none => simp [Array.getD_eq_getD_getElem?, hx] at hl
        | some b => simp [Array.getD_eq_getD_getElem?, hx] at hl; rw [hl]
      rcases he.2 with he | he
      · have : (o.after[k]'hk).on = j := by simpa using he
        rw [← this]; exact hl'
      · cases hB' : (ancAll l [])[(o.after[k]'hk).on]? with
        | none => rw [hB'] at he; simp at he
        | some B => rw [hB'] at he; exact hcl _ B hl' hB' j (by simpa using he)
    have hAL : ∀ j ∈ A, listed.getD j true = true := fun j hj => by simp [Array.getD_eq_getD_getElem?, hAl j hj]
    have him : i < m := by
      rcases Nat.lt_or_ge i m with h | h
      · exact h
      · exfalso
        obtain ⟨k, hkm, hkun⟩ := hsome
        have h1 := hT.1 i (by simpa using hil)
        simp only [Bool.or_eq_true, decide_eq_true_eq, List.all_eq_true] at h1
        rcases h1 with h1 | h1
        · omega
        · have h2 := h1 k (by simp; omega)
          unfold ancB at h2
          rw [hA] at h2
          have h3 := hAL k (by simpa using h2)
          rw [h3] at hkun; cases hkun
    -- the step's own law
    have hs : ∃ s, S[i]? = some s := ⟨S[i]'(by omega), List.getElem?_eq_getElem (by omega)⟩
    obtain ⟨s, hs⟩ := hs
    have law := invSteps_atR (l0 := l) l S 0 (fun j => by rw [Nat.zero_add]) (fun j => by rw [Nat.zero_add]) (steps vs) i o s hol hs w hFw (fun j hj => by
      have hjA : j ∈ A := by
        unfold ancB at hj
        rw [Nat.zero_add, hA] at hj
        simpa using hj
      have h1 := hAl j hjA
      cases hsj : S[j]? with
      | none => simp
      | some s' => simp only [Option.map_some, Option.getD_some]; exact hI j s' h1 hsj)
    rw [Nat.zero_add] at law
    have hag' : Agrees l a (vsAtR S vs) (fun j => listed.getD j true) c := hag.congr (fun _ _ _ => rfl) (fun j hj => by
      by_cases hlt : j < l.length
      · exact known listed vs w hI j (truth hsz hlt hj)
      · unfold vsAtR
        rw [List.getElem?_eq_none (by omega)]
        rfl)
    have hsees := Agrees.sees hB hol hA hag' ((Agrees.lex hB a (vsAtR S vs) i (by omega))) hAL (fun j hj => by
      have := anc_lt hB i i (Nat.le_refl _) o A hol hA j hj
      simpa using this) (fun j B hjB hiB => by
      -- what waits for it isn't done
      cases hL : listed.getD j true with
      | false => rfl
      | true =>
        exfalso
        have hjl : j < l.length := by
          have h1 : (ancAll l []).length = l.length := by
            have := hB
            simp only [ancOk, Bool.and_eq_true] at this
            have h2 := this.1.1
            simpa using (beq_iff_eq.1 h2).symm
          have := (List.getElem?_eq_some_iff.1 hjB).1
          omega
        have h1 := hcl j B (truth hsz hjl hL) hjB i hiB
        simp [Array.getD_eq_getD_getElem?, h1] at hun) (fun j B hjB hiB => by
      have hjl : j < l.length := by
        have h1 : (ancAll l []).length = l.length := by
          have := hB
          simp only [ancOk, Bool.and_eq_true] at this
          have h2 := this.1.1
          simpa using (beq_iff_eq.1 h2).symm
        have := (List.getElem?_eq_some_iff.1 hjB).1
        omega
      have := anc_lt hB j j (Nat.le_refl _) l[j] B (List.getElem?_eq_getElem hjl) hjB i hiB
      simp; omega)
    -- what comes behind
    have next : ∀ v w', R.r w w' → s.J v w' → wpAny P .any l.toArray Q (fuel + (l.length - m)) (listed.setIfInBounds i true) (c.put o.dst v) w' := by
      intro v w' hext hJ
      have hset : ∀ j, j ≠ i → (listed.setIfInBounds i true)[j]? = listed[j]? := fun j hj => by rw [Array.getElem?_setIfInBounds_ne (Ne.symm hj)]
      have hseti : (listed.setIfInBounds i true)[i]? = some true := by simp [hsz, hil]
      refine ih (listed.setIfInBounds i true) (fun j => if j = i then v else vs j) (c.put o.dst v) w' (by simp [hsz]) ?_ (fun k hk hkl => by
        rw [Array.getD_eq_getD_getElem?, hset k (by omega), ← Array.getD_eq_getD_getElem?]; exact hrest k hk hkl) ?_ ?_ (hF _ _ hext hFw) ?_
      · have := cntF_set (n := m) (i := i) (L := fun j => listed.getD j true) (L' := fun j => (listed.setIfInBounds i true).getD j true) him hun
          (by simp [Array.getD_eq_getD_getElem?, hseti]) (fun j hj => by simp only [Array.getD_eq_getD_getElem?, hset j hj])
        omega
      · intro k B hk hB' j hj
        by_cases hki : k = i
        · subst hki
          rw [hA] at hB'; cases hB'
          by_cases hji : j = k
          · rw [hji]; exact hseti
          · rw [hset j hji]; exact hAl j hj
        · rw [hset k hki] at hk
          have := hcl k B hk hB' j hj
          by_cases hji : j = i
          · rw [hji]; exact hseti
          · rw [hset j hji]; exact this
      · exact Agrees.step hB hol v hag (fun j hj => by simp only [Array.getD_eq_getD_getElem?, hset j hj]) (by simp [Array.getD_eq_getD_getElem?, hseti]) (by simp) (fun j hj => by simp [hj])
      · intro j s' hj hs'
        by_cases hji : j = i
        · subst hji
          rw [hs] at hs'; cases hs'
          simpa using hJ
        · rw [hset j hji] at hj
          simp only [hji, if_false]
          exact s'.ok _ _ _ hext (hI j s' hj hs')
    unfold wpOp
    simp only [ho]
    rw [wanted_sees o hsees]
    split
    · rename_i hw
      rw [if_pos hw] at law
      refine .inl ?_
      unfold Oper.leavesAtR at law
      unfold Oper.wp
      rw [execOp_sees o hns hsees]
      generalize (execOp (lexN l (vsAtR S vs) a i).eval o).run P w = r at law ⊢
      cases r with
      | ok n w' =>
        cases n <;> simp only [Oper.leavesR] at law <;> simp only [Oper.upon]
        case value u => exact next u w' law.1 law.2
        case skip => exact next undef w' law.1 law.2
        case enter f args =>
          refine law.2.mono fun e w'' he => ?_
          obtain ⟨v, rfl, hext, hJ⟩ := he
          exact next v w'' (R.trans law.1 hext) hJ
      | halt x w' => simp only [Oper.leavesR] at law
    · rename_i hw
      rw [if_neg hw] at law
      exact next undef w (R.refl w) law

/-- **ONE WALK IN THE TEXT's ORDER SERVES EVERY ORDER**, where all but the last operations make new memory at most and turn none, and the last ones come behind all of these: of each slot it is said beforehand what will be known of its value, whatever was done before it. -/
theorem wp_region_tailR {id : Nat} {l : List Oper} {Q : Exit → Act → World → Prop} {a : Act} {w : World} (hm : P.follows .mixedOrders = true) (m : Nat) (S : List (KeepR R)) (hS : S.length = m) (hml : m ≤ l.length) (hB : ancOk l (ancAll l []) = true) (hT : tailOk l m = true)
    (steps : ∀ vs, invStepsR P l (fun w' => R.r w w') S vs l S 0 a)
    (post : ∀ (vs : Nat → Value) w', R.r w w' → (∀ (j : Nat) (s : (KeepR R)), S[j]? = some s → s.J (vs j) w') → wpList P l.toArray Q (l.drop m) (lexGoR vs l S 0 a) w') : (Code.region id l.toArray true).wp P Q a w := by
  refine wp_region_any hm ?_
  have post : ∀ (vs : Nat → Value) w', R.r w w' → (∀ (j : Nat) (s : (KeepR R)), S[j]? = some s → s.J (vs j) w') → wpList P l.toArray Q (l.drop m) (lexN l (vsAtR S vs) a m) w' := fun vs w' h1 h2 => by
    have := post vs w' h1 h2
    rw [show lexGoR vs l S 0 a = lexN l (vsAtR S vs) a (0 + S.length) from lexGo_eqR l S 0 (fun j => by rw [Nat.zero_add]) (fun j => by rw [Nat.zero_add]) (by omega), Nat.zero_add, hS] at this
    exact this
  have hz : ∀ j, j < l.length → (Array.replicate l.toArray.size false).getD j true = false := fun j hj => by simp [Array.getD_eq_getD_getElem?, hj]
  have hc : cntF m (fun i => (Array.replicate l.toArray.size false).getD i true) = m := by
    have : ∀ n, n ≤ l.length → cntF n (fun i => (Array.replicate l.toArray.size false).getD i true) = n := by
      intro n
      induction n with
      | zero => intro _; rfl
      | succ n ih =>
        intro hn
        simp only [cntF, ih (by omega), hz n (by omega)]
        simp
    exact this m hml
  have := wpAny_invR hS hml hB hT (F := fun w' => R.r w w') (fun _ _ h h' => R.trans h' h) steps post m (Array.replicate l.toArray.size false) (fun _ => undef) a { w with drawn := w.drawn + 1 } (by simp) hc (fun i _ hi => hz i hi) ?_ ?_ (R.drew w) ?_
  · rw [show m + (l.length - m) = l.toArray.size by simp; omega] at this
    exact this
  · intro i A hi
    simp [Array.getElem?_replicate] at hi
  · refine ⟨rfl, fun t => ?_⟩
    cases hj : dstOf l t with
    | none => rfl
    | some j =>
      obtain ⟨o, ho, _⟩ := dstOf_some hj
      have : j < l.length := (List.getElem?_eq_some_iff.1 ho).1
      simp [Array.getD_eq_getD_getElem?, this]
  · intro j s hj
    simp [Array.getElem?_replicate] at hj

/-- .. where all operations are such. -/
theorem wp_region_invR {id : Nat} {l : List Oper} {Q : Exit → Act → World → Prop} {a : Act} {w : World} (hm : P.follows .mixedOrders = true) (S : List (KeepR R)) (hS : l.length = S.length) (hB : ancOk l (ancAll l []) = true)
    (steps : ∀ vs, invStepsR P l (fun w' => R.r w w') S vs l S 0 a)
    (post : ∀ (vs : Nat → Value) w', R.r w w' → (∀ (j : Nat) (s : (KeepR R)), S[j]? = some s → s.J (vs j) w') → Q .normal (lexGoR vs l S 0 a) w') : (Code.region id l.toArray true).wp P Q a w := by
  refine wp_region_tailR hm l.length S hS.symm (Nat.le_refl _) hB ?_ steps fun vs w' h1 h2 => ?_
  · have : Region.ready .any l.toArray (Array.replicate l.length true ++ Array.replicate (l.length - l.length) false) = [] := by
      rw [List.eq_nil_iff_forall_not_mem]
      intro j hj
      have h1 := ready_bounds hj
      have h2 := (mem_ready.1 hj).1
      simp at h1
      simp [Array.getD_eq_getD_getElem?, h1] at h2
    simp only [tailOk, Nat.sub_self, Region.seqB, Bool.and_eq_true, List.all_eq_true]
    refine ⟨fun t ht => ?_, by rw [Nat.sub_self] at this; rw [this]; rfl⟩
    have : t < l.length := by simpa using ht
    simp [this]
  · rw [List.drop_length]; exact post vs w' h1 h2
end
end Go

