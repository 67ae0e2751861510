/- Several texts of mine in one: CodeMath, Tools, Reads, Own, WordMath, LiveMath, ShMath, GrowMath, PrsMath, ApplyMath, SrcMath, BalMath, HedMath. -/
import Derived.WalkKit
import Derived.Lib.Strings
import Derived.WalkSpells
import Derived.Orders
import Derived.Still
import Derived.StillTail
import Derived.Deep.QuietTactic
import Derived.BigQuiet
import Derived.ProofKit
import Derived.OpenShut
import Derived.ShutString
import Derived.ChangeOld
import Derived.Lib.SmallJoins
import Derived.Deep.Matrix
import Derived.Deep.Fields
import Derived.Deep.OwnRows
import Derived.Laws.IdiomStrings
import Derived.Laws.BytesArg
import Derived.Lib.Hide
import Derived.Lib.IndexMore
/- Plain words and codes: letters, powers. No program in sight. -/
namespace Go.Cm
open Go.RowKit

/-- a power -/
def pw (k n : Int) : Int := k ^ n.toNat
theorem pw_zero (k : Int) : pw k 0 = 1 := by simp [pw]
theorem pw_succ (k : Int) (n : Nat) : pw k ((n : Int) + 1) = pw k n * k := by
  unfold pw
  have h : ((n : Int) + 1).toNat = n + 1 := by omega
  have h' : ((n : Int)).toNat = n := by omega
  rw [h, h', Int.pow_succ]
theorem pw_nonneg {k : Int} (h : 0 ≤ k) (n : Nat) : 0 ≤ pw k n := by
  induction n with
  | zero => simp [pw]
  | succ n ih =>
    have : ((n + 1 : Nat) : Int) = (n : Int) + 1 := by omega
    rw [this, pw_succ]
    exact Int.mul_nonneg ih h
theorem pw_le {k : Int} (h0 : 0 ≤ k) (h3 : k ≤ 3) (n : Nat) : pw k n ≤ 3 ^ n := by
  induction n with
  | zero => simp [pw]
  | succ n ih =>
    have e : ((n + 1 : Nat) : Int) = (n : Int) + 1 := by omega
    rw [e, pw_succ, Int.pow_succ]
    exact Int.mul_le_mul ih h3 h0 (Int.le_trans (pw_nonneg h0 n) ih)
theorem pow3_le {n : Nat} (h : n ≤ 16) : (3 : Int) ^ n ≤ 43046721 := by
  have : (3 : Nat) ^ n ≤ 3 ^ 16 := Nat.pow_le_pow_right (by omega) h
  have e : (3 : Int) ^ n = ((3 ^ n : Nat) : Int) := by simp
  rw [e]
  have e2 : (3 : Nat) ^ 16 = 43046721 := by decide
  omega
theorem pw_bd {k n : Int} (h0 : 0 ≤ k) (h3 : k ≤ 3) (hn : 0 ≤ n) (h16 : n ≤ 16) : 0 ≤ pw k n ∧ pw k n ≤ 43046721 := by
  obtain ⟨m, rfl⟩ := Int.eq_ofNat_of_zero_le hn
  exact ⟨pw_nonneg h0 m, Int.le_trans (pw_le h0 h3 m) (pow3_le (by omega))⟩

/-- one letter of the first k -/
def isLet (k : Int) (c : UInt8) : Bool := decide (97 ≤ (c.toNat : Int)) && decide ((c.toNat : Int) - 97 < k)
/-- letters alone -/
def areLet (k : Int) (l : List UInt8) : Bool := l.all (isLet k)

theorem take_snoc (s : ByteArray) (k : Nat) (h : k < s.size) : s.data.toList.take (k + 1) = s.data.toList.take k ++ [s[k]] := by
  rw [List.take_succ_eq_append_getElem (by simpa using h)]; rfl
theorem take_all (s : ByteArray) : s.data.toList.take s.size = s.data.toList := List.take_of_length_le (by simp)
theorem areLet_snoc {k : Int} {s : ByteArray} {n : Nat} (h : n < s.size) (hp : areLet k (s.data.toList.take n) = true) (h1 : 97 ≤ (s[n].toNat : Int)) (h2 : (s[n].toNat : Int) - 97 < k) : areLet k (s.data.toList.take (n + 1)) = true := by
  rw [take_snoc s n h]
  simp only [areLet, List.all_append] at hp ⊢
  simp [hp, isLet, h1, h2]
theorem areLet_bad {k : Int} {s : ByteArray} {n : Nat} (h : n < s.size) (h1 : ¬ (97 ≤ (s[n].toNat : Int) ∧ (s[n].toNat : Int) - 97 < k)) : areLet k s.data.toList = false := by
  unfold areLet
  rw [List.all_eq_false]
  refine ⟨s[n], ?_, ?_⟩
  · have : s.data.toList[n]'(by simpa using h) = s[n] := rfl
    rw [← this]; exact List.getElem_mem _
  · simp only [isLet, Bool.and_eq_true, decide_eq_true_eq]
    exact h1
theorem areLet_all {k : Int} {s : ByteArray} (hp : areLet k (s.data.toList.take s.size) = true) : areLet k s.data.toList = true := by rwa [take_all] at hp

end Go.Cm

/- General tools: a region that asks the tape for its order, walked once, where each operation only makes new memory; small facts on worlds. No dump is imported. -/
namespace Go
open Go.RowKit

/-- Nothing that is there has turned. -/
def Ext (w w' : World) : Prop := Below w.heap.size w w'

theorem Ext.refl (w : World) : Ext w w := Below.refl _ _
theorem Ext.trans {a b c : World} (h : Ext a b) (k : Ext b c) : Ext a c :=
  Below.trans h (Below.mono k (Below.size h))
theorem Ext.drew (w : World) : Ext w w.drew := (Below.refl _ _).drew
theorem Ext.alloc (w : World) (o : Obj) : Ext w (w.alloc o) := (Below.refl _ _).alloc (Nat.le_refl _) o

theorem Ext.drewN {a w : World} (h : Ext a w) (n : Nat) : Ext a (w.drewN n) :=
  Below.trans (b := w) h ⟨rfl, rfl, rfl, Nat.le_refl _, fun _ _ => rfl⟩

/-- What is said of a slot's value, and stays true while memory grows. -/
structure Keep where
  J : Value → World → Prop
  ok : ∀ v w w', Ext w w' → J v w → J v w'
  val : Option Value
  hval : ∀ c, val = some c → ∀ v w, J v w → v = c

@[go_sem] def Keep.known (c : Value) : Keep := ⟨fun v _ => v = c, fun _ _ _ _ h => h, some c, fun _ e _ _ h => h.trans (Option.some.inj e)⟩
@[go_sem] def Keep.any : Keep := ⟨fun _ _ => True, fun _ _ _ _ h => h, none, fun _ e => by cases e⟩
@[go_sem] def Keep.such (J : Value → World → Prop) (ok : ∀ v w w', Ext w w' → J v w → J v w') : Keep := ⟨J, ok, none, fun _ e => by cases e⟩
/-- the value, where it is known beforehand -/
@[go_sem] def Keep.at (s : Keep) (v : Value) : Value := s.val.getD v
theorem Keep.at_eq (s : Keep) {v : Value} {w : World} (h : s.J v w) : s.at v = v := by
  unfold Keep.at
  cases hc : s.val with
  | none => rfl
  | some c => exact (s.hval c hc v w h).symm

@[go_sem] theorem Ext.refl_iff (w : World) : Ext w w ↔ True := ⟨fun _ => trivial, fun _ => Ext.refl w⟩
theorem Ext.cell_some {w w' : World} (h : Ext w w') {a : Addr} {v : Value} (hc : w.cell? a = some v) : w'.cell? a = some v :=
  (Below.cell h (World.block_lt_of_cell? w a hc)).trans hc

/-- a slice over one new cell that holds x -/
def BoxOf (x : Value) (v : Value) (w : World) : Prop := ∃ b, v = .slice (some ⟨b, 0, none⟩) 1 1 ∧ w.cell? ⟨b, 0, none⟩ = some x
@[go_sem] def Keep.box (x : Value) : Keep := ⟨BoxOf x, fun _ _ _ hx ⟨b, h1, h2⟩ => ⟨b, h1, Ext.cell_some hx h2⟩, none, fun _ e => by cases e⟩
theorem boxOf_new (x : Value) (w : World) (E : TypeId) : Ext w (w.alloc (.cells #[x] E)) ∧ BoxOf x (.slice (some ⟨w.heap.size, 0, none⟩) 1 1) (w.alloc (.cells #[x] E)) :=
  ⟨Ext.alloc _ _, w.heap.size, rfl, by simp⟩

/-! ### Counting what is left -/

def cntF : Nat → (Nat → Bool) → Nat
  | 0, _ => 0
  | n + 1, L => cntF n L + (if L n then 0 else 1)

theorem cntF_zero : ∀ {n : Nat} {L : Nat → Bool}, cntF n L = 0 → ∀ i, i < n → L i = true
  | 0, _, _, i, hi => absurd hi (Nat.not_lt_zero _)
  | n + 1, L, h, i, hi => by
    simp only [cntF] at h
    have h1 : cntF n L = 0 := by omega
    by_cases hin : i < n
    · exact cntF_zero h1 i hin
    · have : i = n := by omega
      subst this
      cases hL : L i
      · simp [hL] at h
      · rfl

theorem cntF_congr : ∀ {n : Nat} {L L' : Nat → Bool}, (∀ j, j < n → L j = L' j) → cntF n L = cntF n L'
  | 0, _, _, _ => rfl
  | n + 1, L, L', h => by
    simp only [cntF]
    rw [cntF_congr (n := n) (fun j hj => h j (by omega)), h n (by omega)]

theorem cntF_set : ∀ {n i : Nat} {L L' : Nat → Bool}, i < n → L i = false → L' i = true → (∀ j, j ≠ i → L' j = L j) → cntF n L' + 1 = cntF n L
  | 0, _, _, _, hi, _, _, _ => absurd hi (Nat.not_lt_zero _)
  | n + 1, i, L, L', hi, h0, h1, h => by
    simp only [cntF]
    by_cases hin : i < n
    · have := cntF_set hin h0 h1 h
      rw [h n (by omega)]
      omega
    · have : i = n := by omega
      subst this
      rw [cntF_congr (n := i) (L := L') (L' := L) (fun j hj => h j (by omega)), h0, h1]
      simp

section
variable {P : Program}

/-- What an operation leaves behind: its value keeps what is said of it, and memory has only grown. -/
@[go_sem] def Oper.leaves (P : Program) (I : Value → World → Prop) (w : World) : Result Next → Prop
  | .ok (.value u) w' => Ext w w' ∧ I u w'
  | .ok .skip w' => Ext w w' ∧ I undef w'
  | .ok (.enter f args) w' => Ext w w' ∧ Calls P f args w' (fun e w'' => ∃ v, e = .returned v ∧ Ext w' w'' ∧ I v w'')
  | _ => False

@[go_sem] def Oper.leavesAt (P : Program) (I : Value → World → Prop) (o : Oper) (c : Act) (w : World) : Prop := Oper.leaves P I w ((execOp c.eval o).run P w)

/-- The place of the operation that writes a slot. -/
def dstOf (l : List Oper) (t : Nat) : Option Nat := l.findIdx? (fun o => o.dst == some t)

theorem dstOf_some {l : List Oper} {t : Nat} {j : Nat} (h : dstOf l t = some j) : ∃ o, l[j]? = some o ∧ o.dst = some t := by
  unfold dstOf at h
  obtain ⟨hj, hp, _⟩ := List.findIdx?_eq_some_iff_getElem.1 h
  exact ⟨l[j], by simp [hj], by simpa using hp⟩

/-- One operation of a region, and the places of those that surely come before it. -/
def ancOk1 (l : List Oper) (anc : List (List Nat)) (i : Nat) (o : Oper) (A : List Nat) : Bool :=
  (match o.dst with | some d => dstOf l d == some i | none => true) &&
  (o.looksAt l.toArray).all (fun t => match dstOf l t with | some j => A.contains j || ((anc[j]?).getD []).contains i | none => true) &&
  A.all (fun j => decide (j < l.length) && o.after.any (fun e => Region.binds .any e && (e.on == j || ((anc[e.on]?).map (·.contains j)).getD false))) &&
  o.after.all (fun e => !Region.binds .any e || decide (e.on < i))

def ancOk (l : List Oper) (anc : List (List Nat)) : Bool :=
  (l.length == anc.length) && Region.noSelect l.toArray &&
  (List.range l.length).all fun i => match l[i]?, anc[i]? with
    | some o, some A => ancOk1 l anc i o A
    | _, _ => false

/-- The forerunners of each operation, by the edges. -/
def ancAll : List Oper → List (List Nat) → List (List Nat)
  | [], acc => acc
  | o :: rest, acc => ancAll rest (acc ++ [o.after.toList.foldl (fun s e => if Region.binds .any e then (e.on :: acc.getD e.on []).foldl (fun s j => if s.contains j then s else j :: s) s else s) []])

def ancB (l : List Oper) (i j : Nat) : Bool := ((ancAll l [])[i]?.getD []).contains j

theorem ancOk_at {l : List Oper} {anc : List (List Nat)} (h : ancOk l anc = true) {i : Nat} {o : Oper} (hi : l[i]? = some o) :
    ∃ A, anc[i]? = some A ∧ ancOk1 l anc i o A = true := by
  simp only [ancOk, Bool.and_eq_true, List.all_eq_true] at h
  have hlt : i < l.length := (List.getElem?_eq_some_iff.1 hi).1
  have := h.2 i (by simpa using hlt)
  rw [hi] at this
  cases ha : anc[i]? with
  | none => simp [ha] at this
  | some A => exact ⟨A, rfl, by simpa [ha] using this⟩

/-- The frame when all before place m are done, in the text's order. -/
def lexN (l : List Oper) (vs : Nat → Value) (a : Act) : Nat → Act
  | 0 => a
  | m + 1 => (lexN l vs a m).put ((l[m]?).bind (·.dst)) (vs m)

/-- A frame in which just the operations of L are done. -/
def Agrees (l : List Oper) (a : Act) (vs : Nat → Value) (L : Nat → Bool) (c : Act) : Prop :=
  c.defers = a.defers ∧ ∀ t : Nat, c.tmps[t]? = match dstOf l t with
    | some j => if L j = true then (if t < a.tmps.size then some (vs j) else none) else a.tmps[t]?
    | none => a.tmps[t]?

theorem Act.put_at (c : Act) (d : Nat) (v : Value) (t : Nat) : (c.put (some d) v).tmps[t]? = if t = d then (if t < c.tmps.size then some v else none) else c.tmps[t]? := by
  simp only [Act.put, Array.getElem?_setIfInBounds]
  by_cases h : d = t
  · subst h; simp
  · simp [h, Ne.symm h]

theorem Agrees.size {l : List Oper} {a c : Act} {vs : Nat → Value} {L : Nat → Bool} (h : Agrees l a vs L c) (t : Nat) : t < c.tmps.size ↔ t < a.tmps.size := by
  have := h.2 t
  cases hd : dstOf l t with
  | none =>
    simp only [hd] at this
    by_cases h1 : t < c.tmps.size
    · rw [Array.getElem?_eq_getElem h1] at this
      have := (Array.getElem?_eq_some_iff.1 this.symm).1
      simp [h1, this]
    · rw [Array.getElem?_eq_none (by omega)] at this
      have := Array.getElem?_eq_none_iff.1 this.symm
      omega
  | some j =>
    simp only [hd] at this
    by_cases hL : L j = true
    · simp only [hL, if_true] at this
      by_cases h1 : t < c.tmps.size
      · rw [Array.getElem?_eq_getElem h1] at this
        by_cases h2 : t < a.tmps.size
        · simp [h1, h2]
        · simp [h2] at this
      · rw [Array.getElem?_eq_none (by omega)] at this
        by_cases h2 : t < a.tmps.size
        · simp [h2] at this
        · omega
    · simp only [hL] at this
      by_cases h1 : t < c.tmps.size
      · rw [Array.getElem?_eq_getElem h1] at this
        have := (Array.getElem?_eq_some_iff.1 this.symm).1
        simp [h1, this]
      · rw [Array.getElem?_eq_none (by omega)] at this
        have := Array.getElem?_eq_none_iff.1 (this.symm)
        omega

/-- One more operation is done. -/
theorem Agrees.step {l : List Oper} {anc : List (List Nat)} (hB : ancOk l anc = true) {a c : Act} {vs vs' : Nat → Value} {L L' : Nat → Bool} {i : Nat} {o : Oper} (hi : l[i]? = some o) (v : Value)
    (h : Agrees l a vs L c) (hL : ∀ j, j ≠ i → L' j = L j) (hLi : L' i = true) (hv : vs' i = v) (hvs : ∀ j, j ≠ i → vs' j = vs j) : Agrees l a vs' L' (c.put o.dst v) := by
  obtain ⟨A, hA, hok⟩ := ancOk_at hB hi
  simp only [ancOk1, Bool.and_eq_true] at hok
  have hdst := hok.1.1.1
  refine ⟨by cases o.dst <;> exact h.1, fun t => ?_⟩
  have hsz := h.size t
  have ht := h.2 t
  cases hd : o.dst with
  | none =>
    show c.tmps[t]? = _
    rw [ht]
    cases hj : dstOf l t with
    | none => rfl
    | some j =>
      have hji : j ≠ i := fun e => by
        subst e
        obtain ⟨o', ho', hd'⟩ := dstOf_some hj
        rw [hi] at ho'; cases ho'; rw [hd] at hd'; cases hd'
      simp only [hL j hji, hvs j hji]
  | some d =>
    rw [hd] at hdst
    have hdi : dstOf l d = some i := by simpa using hdst
    rw [Act.put_at]
    by_cases htd : t = d
    · subst htd
      rw [if_pos rfl, hdi]
      simp only [hLi, if_true, hv]
      by_cases h1 : t < c.tmps.size
      · simp [h1, hsz.1 h1]
      · have : ¬ t < a.tmps.size := fun h2 => h1 (hsz.2 h2)
        simp [h1, this]
    · rw [if_neg htd, ht]
      cases hj : dstOf l t with
      | none => rfl
      | some j =>
        have hji : j ≠ i := fun e => by
          subst e
          obtain ⟨o', ho', hd'⟩ := dstOf_some hj
          rw [hi] at ho'; cases ho'; rw [hd] at hd'
          exact htd (Option.some.inj hd').symm
        simp only [hL j hji, hvs j hji]

theorem Agrees.lex {l : List Oper} {anc : List (List Nat)} (hB : ancOk l anc = true) (a : Act) (vs : Nat → Value) : ∀ m, m ≤ l.length → Agrees l a vs (fun j => decide (j < m)) (lexN l vs a m)
  | 0, _ => ⟨rfl, fun t => by cases dstOf l t <;> simp [lexN]⟩
  | m + 1, hm => by
    have hi : l[m]? = some l[m] := List.getElem?_eq_getElem (by omega)
    have := Agrees.step hB hi (vs m) (Agrees.lex hB a vs m (by omega)) (vs' := vs) (L' := fun j => decide (j < m + 1)) (fun j hj => by simp only [decide_eq_decide]; omega) (by simp) rfl (fun _ _ => rfl)
    simpa [lexN, hi] using this

theorem Agrees.congr {l : List Oper} {a c : Act} {vs vs' : Nat → Value} {L L' : Nat → Bool} (h : Agrees l a vs L c) (hL : ∀ j o, l[j]? = some o → L j = L' j) (hv : ∀ j, L j = true → vs j = vs' j) : Agrees l a vs' L' c := by
  refine ⟨h.1, fun t => ?_⟩
  rw [h.2 t]
  cases hj : dstOf l t with
  | none => rfl
  | some j =>
    obtain ⟨o, ho, _⟩ := dstOf_some hj
    simp only [← hL j o ho]
    by_cases hl : L j = true
    · simp only [hl, if_true, hv j hl]
    · simp only [hl, Bool.false_eq_true, if_false]

theorem Agrees.unique {l : List Oper} {a c c' : Act} {vs : Nat → Value} {L : Nat → Bool} (h : Agrees l a vs L c) (h' : Agrees l a vs L c') : c = c' := by
  obtain ⟨t, d⟩ := c
  obtain ⟨t', d'⟩ := c'
  have h1 : d = d' := h.1.trans h'.1.symm
  have h2 : t = t' := Array.ext_getElem? fun i => (h.2 i).trans (h'.2 i).symm
  subst h1; subst h2; rfl

/-- What an operation looks at reads alike where its forerunners are done, and none of those that wait for it. -/
theorem Agrees.sees {l : List Oper} {anc : List (List Nat)} (hB : ancOk l anc = true) {a c c' : Act} {vs : Nat → Value} {L L' : Nat → Bool} {i : Nat} {o : Oper} {A : List Nat} (hi : l[i]? = some o) (hA : anc[i]? = some A)
    (h : Agrees l a vs L c) (h' : Agrees l a vs L' c') (hL : ∀ j ∈ A, L j = true) (hL' : ∀ j ∈ A, L' j = true) (hN : ∀ j B, anc[j]? = some B → i ∈ B → L j = false) (hN' : ∀ j B, anc[j]? = some B → i ∈ B → L' j = false) : ∀ t ∈ o.looksAt l.toArray, c.tmps[t]? = c'.tmps[t]? := by
  intro t ht
  obtain ⟨A', hA', hok⟩ := ancOk_at hB hi
  rw [hA] at hA'; cases hA'
  simp only [ancOk1, Bool.and_eq_true, List.all_eq_true] at hok
  have := hok.1.1.2 t ht
  rw [h.2 t, h'.2 t]
  cases hj : dstOf l t with
  | none => rfl
  | some j =>
    rw [hj] at this
    simp only [Bool.or_eq_true] at this
    rcases this with this | this
    · have hjA : j ∈ A := by simpa using this
      simp only [hL j hjA, hL' j hjA]
    · cases hB' : anc[j]? with
      | none => rw [hB'] at this; simp at this
      | some B =>
        rw [hB'] at this
        have hiB : i ∈ B := by simpa using this
        simp only [hN j B hB' hiB, hN' j B hB' hiB, Bool.false_eq_true, if_false]

/-- A forerunner stands ahead. -/
theorem anc_lt {l : List Oper} {anc : List (List Nat)} (hB : ancOk l anc = true) : ∀ (n i : Nat), i ≤ n → ∀ o A, l[i]? = some o → anc[i]? = some A → ∀ j ∈ A, j < i := by
  intro n
  induction n with
  | zero =>
    intro i hin o A hol hA j hj
    obtain ⟨A', hA', hok'⟩ := ancOk_at hB hol
    rw [hA] at hA'; cases hA'
    simp only [ancOk1, Bool.and_eq_true, List.all_eq_true, Array.any_eq_true, Array.all_eq_true_iff_forall_mem] at hok'
    obtain ⟨k, hk, he⟩ := (hok'.1.2 j hj).2
    have hlt := hok'.2 _ (Array.getElem_mem hk)
    simp [he.1] at hlt
    omega
  | succ n ihn =>
    intro i hin o A hol hA j hj
    obtain ⟨A', hA', hok'⟩ := ancOk_at hB hol
    rw [hA] at hA'; cases hA'
    simp only [ancOk1, Bool.and_eq_true, List.all_eq_true, Array.any_eq_true, Array.all_eq_true_iff_forall_mem] at hok'
    obtain ⟨k, hk, he⟩ := (hok'.1.2 j hj).2
    have hlt := hok'.2 _ (Array.getElem_mem hk)
    simp only [Bool.or_eq_true] at he
    simp [he.1] at hlt
    rcases he.2 with he | he
    · have : (o.after[k]'hk).on = j := by simpa using he
      omega
    · cases hB' : anc[(o.after[k]'hk).on]? with
      | none => rw [hB'] at he; simp at he
      | some B =>
        rw [hB'] at he
        have hlt' : (o.after[k]'hk).on < l.length := by
          have := (List.getElem?_eq_some_iff.1 hol).1
          omega
        have := ihn (o.after[k]'hk).on (by omega) l[(o.after[k]'hk).on] B (List.getElem?_eq_getElem hlt') hB' j (by simpa using he)
        omega

theorem execOp_sees {ops : Array Oper} (o : Oper) (hs : ∀ cs b, o.op ≠ .select cs b) {c c' : Act} (h : ∀ t ∈ o.looksAt ops, c.tmps[t]? = c'.tmps[t]?) : execOp c.eval o = execOp c'.eval o :=
  execOp_congr o hs fun x hx => by
    cases x with
    | tmp t =>
      have := h t (List.mem_append_left _ (List.mem_filterMap.2 ⟨.tmp t, by simpa using hx, rfl⟩))
      simp only [Act.eval, Array.getD_eq_getD_getElem?, this]
    | _ => rfl

theorem wanted_sees {ops : Array Oper} (o : Oper) {c c' : Act} (h : ∀ t ∈ o.looksAt ops, c.tmps[t]? = c'.tmps[t]?) : Region.wanted o (yielded ops c.tmps) = Region.wanted o (yielded ops c'.tmps) := by
  unfold Region.wanted
  cases hg : o.guard with
  | none => rfl
  | some gw =>
    obtain ⟨g, want⟩ := gw
    have hy : yielded ops c.tmps g = yielded ops c'.tmps g := by
      unfold yielded
      cases ht : (ops[g]?).bind (·.dst) with
      | none => rfl
      | some t =>
        have := h t (by simp [Oper.looksAt, hg, ht])
        simp only [Option.bind_some, this]
    simp only [hy]

/-- What of the slots is known, in a place. -/
def vsAt (S : List Keep) (vs : Nat → Value) (j : Nat) : Value := ((S[j]?).map (fun s => s.at (vs j))).getD (vs j)

/-- A region's operations in the text's order, each with what is said of its value. -/
def invSteps (P : Program) (ops : List Oper) (F : World → Prop) (S : List Keep) (vs : Nat → Value) : List Oper → List Keep → Nat → Act → Prop
  | o :: rest, s :: srest, i, c =>
    (∀ w', F w' → (∀ j, ancB ops i j = true → ((S[j]?).map (fun s => s.J (vs j) w')).getD True) → if Region.wanted o (yielded ops.toArray c.tmps) = true then o.leavesAt P s.J c w' else s.J undef w') ∧
    invSteps P ops F S vs rest srest (i + 1) (c.put o.dst (s.at (vs i)))
  | _, _, _, _ => True

theorem invSteps_at {F : World → Prop} {S0 : List Keep} {vs : Nat → Value} {l0 : List Oper} {a : Act} : ∀ (l : List Oper) (S : List Keep) (k : Nat),
    (∀ j, l[j]? = l0[k + j]?) → (∀ j, S[j]? = S0[k + j]?) → invSteps P l0 F S0 vs l S k (lexN l0 (vsAt S0 vs) a k) → ∀ i o s, l[i]? = some o → S[i]? = some s →
    ∀ w', F w' → (∀ j, ancB l0 (k + i) j = true → ((S0[j]?).map (fun s => s.J (vs j) w')).getD True) →
      if Region.wanted o (yielded l0.toArray (lexN l0 (vsAt S0 vs) a (k + i)).tmps) = true then o.leavesAt P s.J (lexN l0 (vsAt S0 vs) a (k + i)) w' else s.J undef w'
  | [], _, _, _, _, _, i, o, s, hi, _ => by simp at hi
  | o' :: l, [], _, _, _, _, i, o, s, _, hs => by simp at hs
  | o' :: l, s' :: S, k, hl, hS, h, 0, o, s, hi, hs => by
    simp only [List.getElem?_cons_zero, Option.some.injEq] at hi hs
    subst hi; subst hs
    exact h.1
  | o' :: l, s' :: S, k, hl, hS, h, i + 1, o, s, hi, hs => by
    have h0 : l0[k]? = some o' := by simpa using (hl 0).symm
    have s0 : S0[k]? = some s' := by simpa using (hS 0).symm
    have := invSteps_at l S (k + 1) (fun j => by have := hl (j + 1); simpa [Nat.add_assoc, Nat.add_comm 1 j] using this) (fun j => by have := hS (j + 1); simpa [Nat.add_assoc, Nat.add_comm 1 j] using this)
      (by simpa [lexN, h0, vsAt, s0] using h.2) i o s (by simpa using hi) (by simpa using hs)
    have e : k + 1 + i = k + (i + 1) := by omega
    rw [e] at this
    exact this

/-- The frame behind the region. -/
def lexGo (vs : Nat → Value) : List Oper → List Keep → Nat → Act → Act
  | o :: rest, s :: srest, i, c => lexGo vs rest srest (i + 1) (c.put o.dst (s.at (vs i)))
  | _, _, _, c => c
@[go_sem] theorem lexGo_cons (vs : Nat → Value) (o : Oper) (rest : List Oper) (s : Keep) (srest : List Keep) (i : Nat) (c : Act) : lexGo vs (o :: rest) (s :: srest) i c = lexGo vs rest srest (i + 1) (c.put o.dst (s.at (vs i))) := rfl
@[go_sem] theorem lexGo_nil (vs : Nat → Value) (l : List Oper) (i : Nat) (c : Act) : lexGo vs l [] i c = c := by cases l <;> rfl

theorem lexGo_eq {S0 : List Keep} {vs : Nat → Value} {l0 : List Oper} {a : Act} : ∀ (l : List Oper) (S : List Keep) (k : Nat),
    (∀ j, l[j]? = l0[k + j]?) → (∀ j, S[j]? = S0[k + j]?) → S.length ≤ l.length → lexGo vs l S k (lexN l0 (vsAt S0 vs) a k) = lexN l0 (vsAt S0 vs) a (k + S.length)
  | l, [], _, _, _, _ => by rw [lexGo_nil]; rfl
  | [], _ :: _, _, _, _, h => by simp at h
  | o :: l, s :: S, k, hl, hS, h => by
    have h0 : l0[k]? = some o := by simpa using (hl 0).symm
    have s0 : S0[k]? = some s := by simpa using (hS 0).symm
    have := lexGo_eq (vs := vs) (l0 := l0) (S0 := S0) (a := a) l S (k + 1) (fun j => by have := hl (j + 1); simpa [Nat.add_assoc, Nat.add_comm 1 j] using this) (fun j => by have := hS (j + 1); simpa [Nat.add_assoc, Nat.add_comm 1 j] using this) (by simpa using h)
    have e : k + (s :: S).length = k + 1 + S.length := by simp; omega
    rw [e, ← this]
    simp [lexGo, lexN, h0, vsAt, s0]

theorem ready_bounds {ops : Array Oper} {md : Region.Mode} {listed : Array Bool} {j : Nat} (h : j ∈ Region.ready md ops listed) : j < ops.size := by
  obtain ⟨_, o, ho, _⟩ := mem_ready.1 h
  exact (Array.getElem?_eq_some_iff.1 ho).1

/-- Where nothing is ready, all is done. -/
theorem all_listed {l : List Oper} {anc : List (List Nat)} (hB : ancOk l anc = true) {listed : Array Bool} (hr : Region.ready .any l.toArray listed = []) : ∀ i, i < l.length → listed.getD i true = true := by
  intro i
  induction i using Nat.strongRecOn with
  | ind i ih =>
    intro hi
    cases hL : listed.getD i true with
    | true => rfl
    | false =>
      exfalso
      have ho : l[i]? = some l[i] := List.getElem?_eq_getElem hi
      obtain ⟨A, hA, hok⟩ := ancOk_at hB ho
      simp only [ancOk1, Bool.and_eq_true, Array.all_eq_true_iff_forall_mem] at hok
      have : i ∈ Region.ready .any l.toArray listed := mem_ready.2 ⟨hL, l[i], by simp, fun e he hb => by
        have h1 := hok.2 e he
        have hlt : e.on < i := by simpa [hb] using h1
        have h2 := ih e.on hlt (by omega)
        have hsz : i < listed.size := by
          rcases Nat.lt_or_ge i listed.size with h | h
          · exact h
          · simp [Array.getElem?_eq_none h] at hL
        have : e.on < listed.size := by omega
        simp [this] at h2 ⊢
        exact h2⟩
      rw [hr] at this
      cases this

/-- What stands from place m on comes behind all that stands ahead of it, in the text's order. -/
def tailOk (l : List Oper) (m : Nat) : Bool :=
  ((List.range l.length).all fun t => decide (t < m) || (List.range t).all fun j => ancB l t j) && Region.seqB .any l.toArray (l.length - m) m (Array.replicate m true ++ Array.replicate (l.length - m) false)

theorem wpAny_inv {l : List Oper} {S : List Keep} {m : Nat} (hS : S.length = m) (hml : m ≤ l.length) (hB : ancOk l (ancAll l []) = true) (hT : tailOk l m = true) {F : World → Prop} (hF : ∀ w w', Ext w w' → F w → F w') {a : Act} {Q : Exit → Act → World → Prop}
    (steps : ∀ vs, invSteps P l F S vs l S 0 a)
    (post : ∀ (vs : Nat → Value) w', F w' → (∀ (j : Nat) (s : Keep), S[j]? = some s → s.J (vs j) w') → wpList P l.toArray Q (l.drop m) (lexN l (vsAt S vs) a m) w') :
    ∀ (fuel : Nat) (listed : Array Bool) (vs : Nat → Value) (c : Act) (w : World), listed.size = l.length → cntF m (fun i => listed.getD i true) = fuel → (∀ i, m ≤ i → i < l.length → listed.getD i true = false) →
      (∀ (i : Nat) (A : List Nat), listed[i]? = some true → (ancAll l [])[i]? = some A → ∀ j ∈ A, listed[j]? = some true) →
      Agrees l a vs (fun j => listed.getD j true) c → F w → (∀ (j : Nat) (s : Keep), listed[j]? = some true → S[j]? = some s → s.J (vs j) w) → wpAny P .any l.toArray Q (fuel + (l.length - m)) listed c w := by
  -- what is known is what is there
  have known : ∀ (listed : Array Bool) (vs : Nat → Value) (w : World), (∀ (j : Nat) (s : Keep), listed[j]? = some true → S[j]? = some s → s.J (vs j) w) → ∀ j, listed[j]? = some true → vs j = vsAt S vs j := by
    intro listed vs w hI j hj
    unfold vsAt
    cases hs : S[j]? with
    | none => rfl
    | some s => exact (s.at_eq (hI j s hj hs)).symm
  have truth : ∀ {listed : Array Bool} {j : Nat}, listed.size = l.length → j < l.length → listed.getD j true = true → listed[j]? = some true := by
    intro listed j hsz hj h
    have h2 : j < listed.size := by omega
    simp [h2] at h ⊢
    exact h
  simp only [tailOk, Bool.and_eq_true, List.all_eq_true] at hT
  -- the end
  have fin : ∀ (listed : Array Bool) (vs : Nat → Value) (c : Act) (w : World), listed.size = l.length → (∀ i, i < m → listed.getD i true = true) → (∀ i, m ≤ i → i < l.length → listed.getD i true = false) → Agrees l a vs (fun j => listed.getD j true) c → F w →
      (∀ (j : Nat) (s : Keep), listed[j]? = some true → S[j]? = some s → s.J (vs j) w) → wpAny P .any l.toArray Q (l.length - m) listed c w := by
    intro listed vs c w hsz hall hrest hag hFw hI
    have kn := known listed vs w hI
    have e : c = lexN l (vsAt S vs) a m := by
      refine Agrees.unique (hag.congr (vs' := vsAt S vs) (L' := fun j => listed.getD j true) (fun _ _ _ => rfl) (fun j hj => ?_)) ((Agrees.lex hB a (vsAt S vs) m hml).congr (fun j o ho => ?_) (fun _ _ => rfl))
      · by_cases hlt : j < l.length
        · exact kn j (truth hsz hlt hj)
        · unfold vsAt
          rw [List.getElem?_eq_none (by omega)]
          rfl
      · have hj : j < l.length := (List.getElem?_eq_some_iff.1 ho).1
        by_cases hjm : j < m
        · simp only [hall j hjm]
          simpa using hjm
        · simp only [hrest j (by omega) hj]
          simpa using hjm
    have el : listed = Array.replicate m true ++ Array.replicate (l.length - m) false := by
      apply Array.ext
      · simp; omega
      · intro i h1 h2
        have hil : i < l.length := by omega
        by_cases him : i < m
        · have := truth hsz hil (hall i him)
          rw [Array.getElem?_eq_getElem h1] at this
          rw [Option.some.inj this]
          simp [him]
        · have := hrest i (by omega) hil
          simp [h1] at this
          rw [this]
          simp [Array.getElem_append, him]
    have hseq : Region.seqB .any l.toArray (l.drop m).length m listed = true := by
      rw [el, List.length_drop]; exact hT.2
    have := wpAny_of_seq (P := P) (Q' := Q) (ops := l.toArray) (l.drop m) m listed c w (fun j => by simp) hseq (by
      rw [e]
      refine post vs w hFw fun j s hs => hI j s ?_ hs
      have hj : j < S.length := (List.getElem?_eq_some_iff.1 hs).1
      exact truth hsz (by omega) (hall j (by omega)))
    rwa [List.length_drop] at this
  intro fuel
  induction fuel with
  | zero =>
    intro listed vs c w hsz hcnt hrest hcl hag hFw hI
    rw [Nat.zero_add]
    exact fin listed vs c w hsz (cntF_zero hcnt) hrest hag hFw hI
  | succ fuel ih =>
    intro listed vs c w hsz hcnt hrest hcl hag hFw hI
    rw [show fuel + 1 + (l.length - m) = (fuel + (l.length - m)) + 1 by omega]
    have hsome : ∃ i, i < m ∧ listed.getD i true = false := by
      apply Classical.byContradiction
      intro hno
      have : cntF m (fun i => listed.getD i true) = 0 := by
        have h0 : ∀ n, n ≤ m → cntF n (fun i => listed.getD i true) = 0 := by
          intro n
          induction n with
          | zero => intro _; rfl
          | succ n ihn =>
            intro hn
            have : listed.getD n true = true := by
              cases hv : listed.getD n true with
              | true => rfl
              | false => exact absurd ⟨n, by omega, hv⟩ hno
            simp only [cntF, ihn (by omega), this]
            simp
        exact h0 m (Nat.le_refl _)
      omega
    refine ⟨fun hr => ?_, fun i hi => ?_⟩
    · exfalso
      obtain ⟨i, him, hun⟩ := hsome
      have := all_listed hB hr i (by omega)
      rw [this] at hun; cases hun
    have hil : i < l.length := by simpa using ready_bounds hi
    obtain ⟨hun, o, ho, hafter⟩ := mem_ready.1 hi
    have hol : l[i]? = some o := by simpa using ho
    obtain ⟨A, hA, hok⟩ := ancOk_at hB hol
    simp only [ancOk1, Bool.and_eq_true, List.all_eq_true, Array.any_eq_true] at hok
    have hns : ∀ cs b, o.op ≠ .select cs b := by
      have := hB
      simp only [ancOk, Bool.and_eq_true] at this
      exact fun cs b => Region.noSelect_spec this.1.2 i o cs b ho
    -- its forerunners are done
    have hAl : ∀ j ∈ A, listed[j]? = some true := by
      intro j hj
      have h1 := (hok.1.2 j hj)
      obtain ⟨k, hk, he⟩ := h1.2
      simp only [Bool.or_eq_true] at he
      have hl := hafter _ (Array.getElem_mem hk) he.1
      have hl' : listed[(o.after[k]'hk).on]? = some true := by
        cases hx : listed[(o.after[k]'hk).on]? with
        | none => simp [Array.getD_eq_getD_getElem?, hx] at hl
        | some b => simp [Array.getD_eq_getD_getElem?, hx] at hl; rw [hl]
      rcases he.2 with he | he
      · have : (o.after[k]'hk).on = j := by simpa using he
        rw [← this]; exact hl'
      · cases hB' : (ancAll l [])[(o.after[k]'hk).on]? with
        | none => rw [hB'] at he; simp at he
        | some B => rw [hB'] at he; exact hcl _ B hl' hB' j (by simpa using he)
    have hAL : ∀ j ∈ A, listed.getD j true = true := fun j hj => by simp [Array.getD_eq_getD_getElem?, hAl j hj]
    have him : i < m := by
      rcases Nat.lt_or_ge i m with h | h
      · exact h
      · exfalso
        obtain ⟨k, hkm, hkun⟩ := hsome
        have h1 := hT.1 i (by simpa using hil)
        simp only [Bool.or_eq_true, decide_eq_true_eq, List.all_eq_true] at h1
        rcases h1 with h1 | h1
        · omega
        · have h2 := h1 k (by simp; omega)
          unfold ancB at h2
          rw [hA] at h2
          have h3 := hAL k (by simpa using h2)
          rw [h3] at hkun; cases hkun
    -- the step's own law
    have hs : ∃ s, S[i]? = some s := ⟨S[i]'(by omega), List.getElem?_eq_getElem (by omega)⟩
    obtain ⟨s, hs⟩ := hs
    have law := invSteps_at (l0 := l) l S 0 (fun j => by rw [Nat.zero_add]) (fun j => by rw [Nat.zero_add]) (steps vs) i o s hol hs w hFw (fun j hj => by
      have hjA : j ∈ A := by
        unfold ancB at hj
        rw [Nat.zero_add, hA] at hj
        simpa using hj
      have h1 := hAl j hjA
      cases hsj : S[j]? with
      | none => simp
      | some s' => simp only [Option.map_some, Option.getD_some]; exact hI j s' h1 hsj)
    rw [Nat.zero_add] at law
    have hag' : Agrees l a (vsAt S vs) (fun j => listed.getD j true) c := hag.congr (fun _ _ _ => rfl) (fun j hj => by
      by_cases hlt : j < l.length
      · exact known listed vs w hI j (truth hsz hlt hj)
      · unfold vsAt
        rw [List.getElem?_eq_none (by omega)]
        rfl)
    have hsees := Agrees.sees hB hol hA hag' ((Agrees.lex hB a (vsAt S vs) i (by omega))) hAL (fun j hj => by
      have := anc_lt hB i i (Nat.le_refl _) o A hol hA j hj
      simpa using this) (fun j B hjB hiB => by
      -- what waits for it isn't done
      cases hL : listed.getD j true with
      | false => rfl
      | true =>
        exfalso
        have hjl : j < l.length := by
          have h1 : (ancAll l []).length = l.length := by
            have := hB
            simp only [ancOk, Bool.and_eq_true] at this
            have h2 := this.1.1
            simpa using (beq_iff_eq.1 h2).symm
          have := (List.getElem?_eq_some_iff.1 hjB).1
          omega
        have h1 := hcl j B (truth hsz hjl hL) hjB i hiB
        simp [Array.getD_eq_getD_getElem?, h1] at hun) (fun j B hjB hiB => by
      have hjl : j < l.length := by
        have h1 : (ancAll l []).length = l.length := by
          have := hB
          simp only [ancOk, Bool.and_eq_true] at this
          have h2 := this.1.1
          simpa using (beq_iff_eq.1 h2).symm
        have := (List.getElem?_eq_some_iff.1 hjB).1
        omega
      have := anc_lt hB j j (Nat.le_refl _) l[j] B (List.getElem?_eq_getElem hjl) hjB i hiB
      simp; omega)
    -- what comes behind
    have next : ∀ v w', Ext w w' → s.J v w' → wpAny P .any l.toArray Q (fuel + (l.length - m)) (listed.setIfInBounds i true) (c.put o.dst v) w' := by
      intro v w' hext hJ
      have hset : ∀ j, j ≠ i → (listed.setIfInBounds i true)[j]? = listed[j]? := fun j hj => by rw [Array.getElem?_setIfInBounds_ne (Ne.symm hj)]
      have hseti : (listed.setIfInBounds i true)[i]? = some true := by simp [hsz, hil]
      refine ih (listed.setIfInBounds i true) (fun j => if j = i then v else vs j) (c.put o.dst v) w' (by simp [hsz]) ?_ (fun k hk hkl => by
        rw [Array.getD_eq_getD_getElem?, hset k (by omega), ← Array.getD_eq_getD_getElem?]; exact hrest k hk hkl) ?_ ?_ (hF _ _ hext hFw) ?_
      · have := cntF_set (n := m) (i := i) (L := fun j => listed.getD j true) (L' := fun j => (listed.setIfInBounds i true).getD j true) him hun
          (by simp [Array.getD_eq_getD_getElem?, hseti]) (fun j hj => by simp only [Array.getD_eq_getD_getElem?, hset j hj])
        omega
      · intro k B hk hB' j hj
        by_cases hki : k = i
        · subst hki
          rw [hA] at hB'; cases hB'
          by_cases hji : j = k
          · rw [hji]; exact hseti
          · rw [hset j hji]; exact hAl j hj
        · rw [hset k hki] at hk
          have := hcl k B hk hB' j hj
          by_cases hji : j = i
          · rw [hji]; exact hseti
          · rw [hset j hji]; exact this
      · exact Agrees.step hB hol v hag (fun j hj => by simp only [Array.getD_eq_getD_getElem?, hset j hj]) (by simp [Array.getD_eq_getD_getElem?, hseti]) (by simp) (fun j hj => by simp [hj])
      · intro j s' hj hs'
        by_cases hji : j = i
        · subst hji
          rw [hs] at hs'; cases hs'
          simpa using hJ
        · rw [hset j hji] at hj
          simp only [hji, if_false]
          exact s'.ok _ _ _ hext (hI j s' hj hs')
    unfold wpOp
    simp only [ho]
    rw [wanted_sees o hsees]
    split
    · rename_i hw
      rw [if_pos hw] at law
      refine .inl ?_
      unfold Oper.leavesAt at law
      unfold Oper.wp
      rw [execOp_sees o hns hsees]
      generalize (execOp (lexN l (vsAt S vs) a i).eval o).run P w = r at law ⊢
      cases r with
      | ok n w' =>
        cases n <;> simp only [Oper.leaves] at law <;> simp only [Oper.upon]
        case value u => exact next u w' law.1 law.2
        case skip => exact next undef w' law.1 law.2
        case enter f args =>
          refine law.2.mono fun e w'' he => ?_
          obtain ⟨v, rfl, hext, hJ⟩ := he
          exact next v w'' (law.1.trans hext) hJ
      | halt x w' => simp only [Oper.leaves] at law
    · rename_i hw
      rw [if_neg hw] at law
      exact next undef w (Ext.refl w) law

/-- **ONE WALK IN THE TEXT's ORDER SERVES EVERY ORDER**, where all but the last operations make new memory at most and turn none, and the last ones come behind all of these: of each slot it is said beforehand what will be known of its value, whatever was done before it. -/
theorem wp_region_tail {id : Nat} {l : List Oper} {Q : Exit → Act → World → Prop} {a : Act} {w : World} (hm : P.follows .mixedOrders = true) (m : Nat) (S : List Keep) (hS : S.length = m) (hml : m ≤ l.length) (hB : ancOk l (ancAll l []) = true) (hT : tailOk l m = true)
    (steps : ∀ vs, invSteps P l (fun w' => Ext w w') S vs l S 0 a)
    (post : ∀ (vs : Nat → Value) w', Ext w w' → (∀ (j : Nat) (s : Keep), S[j]? = some s → s.J (vs j) w') → wpList P l.toArray Q (l.drop m) (lexGo vs l S 0 a) w') : (Code.region id l.toArray true).wp P Q a w := by
  refine wp_region_any hm ?_
  have post : ∀ (vs : Nat → Value) w', Ext w w' → (∀ (j : Nat) (s : Keep), S[j]? = some s → s.J (vs j) w') → wpList P l.toArray Q (l.drop m) (lexN l (vsAt S vs) a m) w' := fun vs w' h1 h2 => by
    have := post vs w' h1 h2
    rw [show lexGo vs l S 0 a = lexN l (vsAt S vs) a (0 + S.length) from lexGo_eq l S 0 (fun j => by rw [Nat.zero_add]) (fun j => by rw [Nat.zero_add]) (by omega), Nat.zero_add, hS] at this
    exact this
  have hz : ∀ j, j < l.length → (Array.replicate l.toArray.size false).getD j true = false := fun j hj => by simp [Array.getD_eq_getD_getElem?, hj]
  have hc : cntF m (fun i => (Array.replicate l.toArray.size false).getD i true) = m := by
    have : ∀ n, n ≤ l.length → cntF n (fun i => (Array.replicate l.toArray.size false).getD i true) = n := by
      intro n
      induction n with
      | zero => intro _; rfl
      | succ n ih =>
        intro hn
        simp only [cntF, ih (by omega), hz n (by omega)]
        simp
    exact this m hml
  have := wpAny_inv hS hml hB hT (F := fun w' => Ext w w') (fun _ _ h h' => h'.trans h) steps post m (Array.replicate l.toArray.size false) (fun _ => undef) a { w with drawn := w.drawn + 1 } (by simp) hc (fun i _ hi => hz i hi) ?_ ?_ (Ext.drew w) ?_
  · rw [show m + (l.length - m) = l.toArray.size by simp; omega] at this
    exact this
  · intro i A hi
    simp [Array.getElem?_replicate] at hi
  · refine ⟨rfl, fun t => ?_⟩
    cases hj : dstOf l t with
    | none => rfl
    | some j =>
      obtain ⟨o, ho, _⟩ := dstOf_some hj
      have : j < l.length := (List.getElem?_eq_some_iff.1 ho).1
      simp [Array.getD_eq_getD_getElem?, this]
  · intro j s hj
    simp [Array.getElem?_replicate] at hj

/-- .. where all operations are such. -/
theorem wp_region_inv {id : Nat} {l : List Oper} {Q : Exit → Act → World → Prop} {a : Act} {w : World} (hm : P.follows .mixedOrders = true) (S : List Keep) (hS : l.length = S.length) (hB : ancOk l (ancAll l []) = true)
    (steps : ∀ vs, invSteps P l (fun w' => Ext w w') S vs l S 0 a)
    (post : ∀ (vs : Nat → Value) w', Ext w w' → (∀ (j : Nat) (s : Keep), S[j]? = some s → s.J (vs j) w') → Q .normal (lexGo vs l S 0 a) w') : (Code.region id l.toArray true).wp P Q a w := by
  refine wp_region_tail hm l.length S hS.symm (Nat.le_refl _) hB ?_ steps fun vs w' h1 h2 => ?_
  · have : Region.ready .any l.toArray (Array.replicate l.length true ++ Array.replicate (l.length - l.length) false) = [] := by
      rw [List.eq_nil_iff_forall_not_mem]
      intro j hj
      have h1 := ready_bounds hj
      have h2 := (mem_ready.1 hj).1
      simp at h1
      simp [Array.getD_eq_getD_getElem?, h1] at h2
    simp only [tailOk, Nat.sub_self, Region.seqB, Bool.and_eq_true, List.all_eq_true]
    refine ⟨fun t ht => ?_, by rw [Nat.sub_self] at this; rw [this]; rfl⟩
    have : t < l.length := by simpa using ht
    simp [this]
  · rw [List.drop_length]; exact post vs w' h1 h2
end
end Go

/- What a slice reads as; how an argument that came in is opened. No dump is imported. -/
namespace Go
open Go.RowKit Go.Joins Go.Deep Go.ChangeShapes Go.WideShapes Go.ChangeAt

/-- The slice v shows these cells. -/
def Reads (w : World) (v : Value) (fs : List Value) : Prop :=
  ∃ (a : Option Addr) (cap : Nat), v = .slice a fs.length cap ∧ fs.length ≤ cap ∧ cap ≤ maxLen ∧ ∀ i (h : i < fs.length), ∃ b o, a = some ⟨b, o, none⟩ ∧ w.cell? ⟨b, o + i, none⟩ = some fs[i]

theorem Reads.ext {w w' : World} {v : Value} {fs : List Value} (h : Reads w v fs) (hx : Ext w w') : Reads w' v fs := by
  obtain ⟨a, cap, hv, h1, h2, h3⟩ := h
  refine ⟨a, cap, hv, h1, h2, fun i hi => ?_⟩
  obtain ⟨b, o, ha, hc⟩ := h3 i hi
  exact ⟨b, o, ha, hx.cell_some hc⟩

/-- .. of numbers -/
def ReadsI (w : World) (v : Value) (xs : List Int) : Prop := Reads w v (xs.map (.int .i64))
theorem ReadsI.ext {w w' : World} {v : Value} {xs : List Int} (h : ReadsI w v xs) (hx : Ext w w') : ReadsI w' v xs := Reads.ext h hx

/-- .. of rows of numbers -/
def ReadsRows (w : World) (v : Value) (m : List (List Int)) : Prop :=
  ∃ vs : List Value, vs.length = m.length ∧ Reads w v vs ∧ ∀ i (h : i < m.length), ∃ u, vs[i]? = some u ∧ ReadsI w u m[i]
theorem ReadsRows.ext {w w' : World} {v : Value} {m : List (List Int)} (h : ReadsRows w v m) (hx : Ext w w') : ReadsRows w' v m := by
  obtain ⟨vs, h1, h2, h3⟩ := h
  refine ⟨vs, h1, h2.ext hx, fun i hi => ?_⟩
  obtain ⟨u, h4, h5⟩ := h3 i hi
  exact ⟨u, h4, h5.ext hx⟩

/-- .. of texts -/
def ReadsS (w : World) (v : Value) (ss : List ByteArray) : Prop := Reads w v (ss.map .string)
theorem ReadsS.ext {w w' : World} {v : Value} {ss : List ByteArray} (h : ReadsS w v ss) (hx : Ext w w') : ReadsS w' v ss := Reads.ext h hx

theorem strip_cut (rest : List (List Char)) : stripLifts liftWords ("cut".toList :: rest) = ([], "cut".toList :: rest) := by rfl
theorem mayEnter_of {P : Program} (h : (behindMainWord (wordsSigns P.initOrder.toList)).head? = some "cut".toList) (h1 : P.laysLater = false) (h2 : P.bearsReflect = false) (h3 : P.doorFits [] = true) : P.mayEnter = true := by
  unfold Program.mayEnter
  cases hw : behindMainWord (wordsSigns P.initOrder.toList) with
  | nil => rw [hw] at h; cases h
  | cons c rest =>
    rw [hw] at h
    have hc : c = "cut".toList := Option.some.inj h
    subst hc
    simp only [strip_cut, h1, h2, h3]
    simp
theorem liftsFinal_of {P : Program} (h : (behindMainWord (wordsSigns P.initOrder.toList)).head? = some "cut".toList) : P.liftsFinal = false := by
  unfold Program.liftsFinal Program.headLifts
  cases hw : behindMainWord (wordsSigns P.initOrder.toList) with
  | nil => rw [hw] at h; cases h
  | cons c rest =>
    rw [hw] at h
    have hc : c = "cut".toList := Option.some.inj h
    subst hc
    simp only [strip_cut]
    simp
theorem make_of {P : Program} (h : (behindMainWord (wordsSigns P.initOrder.toList)).head? = some "cut".toList) : P.make = some .cut := by
  unfold Program.make
  cases hw : behindMainWord (wordsSigns P.initOrder.toList) with
  | nil => rw [hw] at h; cases h
  | cons c rest =>
    rw [hw] at h
    have hc : c = "cut".toList := Option.some.inj h
    subst hc
    simp

section
variable {H : Type} {enc : TypeId × Value → H} {P : Program} {w : World} {base : Nat} {held : Bool}

theorem cells_at {a : Addr} {n : Nat} {f : Nat → Value} (h : ∀ i, i < n → w.cell? (a.add i) = some (f i)) : ∀ i, i < n → ∃ b o, some a = some ⟨b, o, none⟩ ∧ w.cell? ⟨b, o + i, none⟩ = some (f i) := by
  intro i hi
  obtain ⟨b, o, spot⟩ := a
  have hs : spot = none := by simpa [Addr.add] using World.cell?_spot (h 0 (by omega))
  subst hs
  exact ⟨b, o, rfl, by have := h i hi; rwa [Go.WideShapes.add_plain] at this⟩

/-- arcs: three numbers each -/
def ReadsArcs (w : World) (v : Value) (as : List (Int × Int × Int)) : Prop :=
  ∃ (a : Option Addr) (cap : Nat), v = .slice a as.length cap ∧ as.length ≤ cap ∧ cap ≤ maxLen ∧ ∀ i (h : i < as.length), ∃ b o, a = some ⟨b, o, none⟩ ∧ w.cell? ⟨b, o + i * 3, none⟩ = some (.int .i64 as[i].1) ∧ w.cell? ⟨b, o + i * 3 + 1, none⟩ = some (.int .i64 as[i].2.1) ∧ w.cell? ⟨b, o + i * 3 + 2, none⟩ = some (.int .i64 as[i].2.2)
theorem ReadsArcs.ext {w w' : World} {v : Value} {as : List (Int × Int × Int)} (h : ReadsArcs w v as) (hx : Ext w w') : ReadsArcs w' v as := by
  obtain ⟨a, cap, hv, h1, h2, h3⟩ := h
  refine ⟨a, cap, hv, h1, h2, fun i hi => ?_⟩
  obtain ⟨b, o, ha, k0, k1, k2⟩ := h3 i hi
  exact ⟨b, o, ha, hx.cell_some k0, hx.cell_some k1, hx.cell_some k2⟩
/-- bytes that came in -/
def ReadsB (w : World) (v : Value) (xs : List UInt8) : Prop := Reads w v (xs.map fun c => .int .u8 (c.toNat : Int))
theorem ReadsB.ext {w w' : World} {v : Value} {xs : List UInt8} (h : ReadsB w v xs) (hx : Ext w w') : ReadsB w' v xs := Reads.ext h hx
theorem bytes_of_trod {r : Reach} {b0 : Nat} {t e : TypeId} {v : Value} {d : DataW H} {p : List MemPlace} (ht : P.underlying t = some (.slice e)) (he : P.underlying e = some (.int .u8)) (hc : P.cellsOf e = 1)
    (hv : Value.okWide P w r b0 t v) (h : DataW.Trod enc P w base (fun _ => true) held t v d p) : ∃ xs : List UInt8, ReadsB w v xs := by
  obtain ⟨fuel, hf⟩ := h
  obtain ⟨a0, l0, c0, rfl⟩ := okWide_slice ht hv
  rcases open_ints ht he hc hf with ⟨hcs, _⟩ | ⟨a, len, cap, zs, hcs, _, hl, hm, hz, _, hcell, hw⟩
  · have hcs : Value.slice a0 l0 c0 = .slice none 0 0 := by simpa [Value.cells] using hcs
    rw [hcs]
    exact ⟨[], ⟨none, 0, rfl, Nat.le_refl _, Nat.zero_le _, fun i hi => by simp at hi⟩⟩
  · have hcs : Value.slice a0 l0 c0 = .slice (some a) len cap := by simpa [Value.cells] using hcs
    rw [hcs]
    simp only [if_true] at hz
    have hlen : ((zs.take len).map fun n => UInt8.ofNat n.toNat).length = len := by simp; omega
    refine ⟨(zs.take len).map fun n => UInt8.ofNat n.toNat, ⟨some a, cap, by rw [List.length_map, hlen], by rw [List.length_map, hlen]; exact hl, hm, fun i hi => ?_⟩⟩
    have hi' : i < len := by rw [List.length_map, hlen] at hi; exact hi
    obtain ⟨b, o, h1, h2⟩ := cells_at hcell i (by omega)
    refine ⟨b, o, h1, ?_⟩
    rw [h2]
    have hi2 : i < zs.length := by omega
    have hwf := hw zs[i] (List.getElem_mem hi2)
    simp only [Lit.wf, IntKind.min, IntKind.max, IntKind.signed, IntKind.bits, Bool.and_eq_true, decide_eq_true_eq, Bool.false_eq_true, if_false] at hwf
    have h3 : ((UInt8.ofNat zs[i].toNat).toNat : Int) = zs[i] := by
      have : (UInt8.ofNat zs[i].toNat).toNat = zs[i].toNat % 256 := rfl
      omega
    simp only [List.getD_eq_getElem?_getD, List.getElem?_eq_getElem hi2, Option.getD_some, List.getElem_map, List.getElem_take, h3]
end
end Go

/- Rows that a call itself makes: what they read as, a store, a make. No dump is imported. -/
namespace Go
open Go.RowKit

/-- A row of one-cell elements, made by the call. -/
def Own (w : World) (B : Nat) (E : TypeId) (v : Value) (fs : List Value) : Prop := w.ownsRow B E 1 v fs.length fs

theorem Own.nil (w : World) (B : Nat) (E : TypeId) : Own w B E (.slice none 0 0) [] := World.ownsRow_nil w B E 1

theorem Own.shape {w : World} {B : Nat} {E : TypeId} {v : Value} {fs : List Value} (h : Own w B E v fs) :
    (v = .slice none 0 0 ∧ fs = []) ∨ ∃ g cap, v = .slice (some ⟨g, 0, none⟩) fs.length cap ∧ B ≤ g ∧ g < w.heap.size ∧ fs.length ≤ cap ∧ cap ≤ maxLen := by
  rcases h.2 with ⟨hv, hn⟩ | ⟨g, cap, cur, hv, hb, hg, h1, h2, _⟩
  · exact .inl ⟨hv, List.eq_nil_of_length_eq_zero hn⟩
  · exact .inr ⟨g, cap, hv, hb, (Array.getElem?_eq_some_iff.1 hg).1, h1, h2⟩

theorem Own.cell {w : World} {B : Nat} {E : TypeId} {g n cap : Nat} {fs : List Value} (h : Own w B E (.slice (some ⟨g, 0, none⟩) n cap) fs) (j : Nat) (hj : j < fs.length) : w.cell? ⟨g, j, none⟩ = some fs[j] := by
  rcases h.shape with ⟨hv, _⟩ | ⟨g', cap', hv, _⟩
  · cases hv
  · injection hv with h1 h2 h3
    subst h2
    have := World.ownsRow.cellAt h j (by simpa using hj)
    rw [this, List.getElem?_eq_getElem hj]

theorem Own.len {w : World} {B : Nat} {E : TypeId} {a : Option Addr} {n cap : Nat} {fs : List Value} (h : Own w B E (.slice a n cap) fs) : n = fs.length := by
  rcases h.shape with ⟨hv, hf⟩ | ⟨g', cap', hv, _⟩
  · injection hv with h1 h2 h3; subst hf; exact h2
  · injection hv

theorem Own.frozen {w : World} {B : Nat} {E : TypeId} {g n cap : Nat} {fs : List Value} (h : Own w B E (.slice (some ⟨g, 0, none⟩) n cap) fs) (j : Nat) : w.frozen? ⟨g, j, none⟩ = false := by
  have hn := h.len
  subst hn
  exact World.ownsRow.frozenAt h j

theorem Own.reads {w : World} {B : Nat} {E : TypeId} {v : Value} {fs : List Value} (h : Own w B E v fs) : Reads w v fs := by
  rcases h.shape with ⟨hv, hf⟩ | ⟨g, cap, hv, _, _, h1, h2⟩
  · subst hv; subst hf
    exact ⟨none, 0, rfl, by simp, by simp [maxLen], fun i hi => by simp at hi⟩
  · subst hv
    exact ⟨_, cap, rfl, h1, h2, fun i hi => ⟨g, 0, rfl, by rw [Nat.zero_add]; exact h.cell i hi⟩⟩

theorem Own.ext {w w' : World} {B : Nat} {E : TypeId} {v : Value} {fs : List Value} (h : Own w B E v fs) (hx : Ext w w') : Own w' B E v fs := by
  refine ⟨h.1, ?_⟩
  rcases h.2 with hn | ⟨g, cap, cur, hv, hb, hg, rest⟩
  · exact .inl hn
  · exact .inr ⟨g, cap, cur, hv, hb, by rw [Below.block hx g (Array.getElem?_eq_some_iff.1 hg).1]; exact hg, rest⟩

/-- A store into the row. -/
theorem Own.store {w : World} {B : Nat} {E : TypeId} {g n cap : Nat} {fs : List Value} (h : Own w B E (.slice (some ⟨g, 0, none⟩) n cap) fs) (j : Nat) (u : Value) : Own (w.setCell ⟨g, j, none⟩ u) B E (.slice (some ⟨g, 0, none⟩) n cap) (fs.set j u) := by
  have hn := h.len
  subst hn
  have := (World.ownsRow.stored h j u).1
  unfold Own
  rw [List.length_set]
  exact this

/-- .. and nothing that was there before has turned. -/
theorem Ext.setCell {a w : World} (h : Ext a w) {p : Addr} (hp : a.heap.size ≤ p.block) (u : Value) : Ext a (w.setCell p u) := Below.setCell h hp u

theorem Ext.size {a w : World} (h : Ext a w) : a.heap.size ≤ w.heap.size := Below.size h

theorem Ext.grown {a w w' : World} {row : Option Nat} (h : Ext a w) (hg : w.grownBy w' row) (hr : ∀ k, row = some k → a.heap.size ≤ k) : Ext a w' := Below.grown h hg (Ext.size h) hr

/-- Lowering the base. -/
theorem Own.mono {w : World} {B B' : Nat} {E : TypeId} {v : Value} {fs : List Value} (h : Own w B E v fs) (hB : B' ≤ B) : Own w B' E v fs := by
  refine ⟨h.1, ?_⟩
  rcases h.2 with hn | ⟨g, cap, cur, hv, hb, rest⟩
  · exact .inl hn
  · exact .inr ⟨g, cap, cur, hv, by omega, rest⟩

/-- A row that make has just laid. -/
theorem Own.made (w : World) (E : TypeId) (z : Value) (n : Nat) (hn : n ≤ maxLen) : Own (w.alloc (.cells (madeCells #[z] n) E)) w.heap.size E (.slice (some ⟨w.heap.size, 0, none⟩) n n) (List.replicate n z) := by
  have := World.ownsRow_lit (base := w.heap.size) (e := E) (size := 1) w (madeCells #[z] n) n (Nat.le_refl _) hn (by simp [madeCells])
  rw [toList_madeCells_one] at this
  unfold Own
  rw [List.length_replicate]
  exact this

/-- A row written out. -/
theorem Own.lit (w : World) (E : TypeId) (cs : List Value) (hn : cs.length ≤ maxLen) : Own (w.alloc (.cells cs.toArray E)) w.heap.size E (.slice (some ⟨w.heap.size, 0, none⟩) cs.length cs.length) cs := by
  have := World.ownsRow_lit (base := w.heap.size) (e := E) (size := 1) w cs.toArray cs.length (Nat.le_refl _) hn (by simp)
  exact this

/-- bytes as cells -/
def bcells (l : List UInt8) : List Value := l.map fun b => .int .u8 (b.toNat : Int)

/-- 'string(b)' of a row of bytes -/
theorem run_convert_own {P : Program} {w : World} {B : Nat} {E src dst : TypeId} {v : Value} {l : List UInt8} (hs : P.underlying src = some (.slice E)) (he : P.underlying E = some (.int .u8)) (hd : P.underlying dst = some .string)
    (h : Own w B E v (bcells l)) : (convert src dst v).run P w = .ok (.string ⟨l.toArray⟩) w := by
  rcases h.shape with ⟨hv, hf⟩ | ⟨g, cap, hv, _⟩
  · subst hv
    have : l = [] := by simpa [bcells] using hf
    subst this
    exact run_convert_bytes_nil w src E hs he 0 0 dst hd
  · subst hv
    have hl : (bcells l).length = l.length := by simp [bcells]
    rw [hl]
    refine run_convert_bytes_back w src dst E ⟨g, 0, none⟩ cap l hs he hd fun j hj => ?_
    have := h.cell j (by rw [hl]; exact hj)
    rw [show (⟨g, 0, none⟩ : Addr).add j = ⟨g, j, none⟩ by unfold Addr.add; split <;> simp_all]
    simpa [bcells] using this

/-- Where a row lies behind an append: where it lay, or in a new block. -/
def Moved (w : World) (v v' : Value) : Prop := v'.ownBlock = v.ownBlock ∨ ∀ k, v'.ownBlock = some k → w.heap.size ≤ k

theorem run_append_one {P : Program} {w : World} (t ty E : TypeId) (z : Value) (bytes : Nat) (ht : P.underlying t = some (.slice E)) (hinfo : (P.info? E).map (fun i => (i.zero, i.size, i.bytes)) = some (some z, 1, bytes)) (hz1 : z.cells = #[z])
    (B : Nat) (v : Value) (fs : List Value) (hown : Own w B E v fs) (ad : Addr) (c : Nat) (u : Value) (hu : w.cell? ad = some u) (h1 : u.oneCell' = true)
    (hlen : fs.length + 1 ≤ maxLen) (hbytes : (fs.length + 1) * bytes ≤ 140737488355328) (hbase : B ≤ w.heap.size) :
    ∃ v' w', (Builtin.append_ #[t, t] ty #[v, .slice (some ad) 1 c]).run P w = .ok v' w' ∧ Own w' B E v' (fs ++ [u]) ∧ w.grownBy w' v.ownBlock ∧ Moved w v v' := by
  obtain ⟨i, hi, hzz⟩ := Option.map_eq_some_iff.1 hinfo
  simp only [Prod.mk.injEq] at hzz
  obtain ⟨hz, hsz, hb⟩ := hzz
  have hnews : ∀ (j : Nat) (u' : Value), [u][j]? = some u' → w.cell? (ad.add j) = some u' := by
    intro j u' hj
    match j, hj with
    | 0, hj => simp at hj; subst hj; simpa [Addr.add] using hu
  have hlen63 : fs.length + 1 ≤ 9223372036854775807 := by simp only [maxLen] at hlen; omega
  -- a new block
  have fresh : ∀ old, (w.drew.alloc (.cells (fs.toArray ++ [u].toArray ++ Builtin.zeroCells z.cells (grownCap w (fs.length + 1) old E - (fs.length + 1))) E)).ownsRow B E 1 (.slice (some ⟨w.heap.size, 0, none⟩) (fs.length + 1) (grownCap w (fs.length + 1) old E)) (fs.length + 1) (fs ++ [u]) := by
    intro old
    have hge := grownCap_ge w (fs.length + 1) old E
    refine ⟨by simp, .inr ⟨w.heap.size, _, _, rfl, hbase, heap_alloc_new w.drew _, hge, grownCap_le_maxLen w (fs.length + 1) old E hlen, ?_, ?_⟩⟩
    · simp only [Array.size_append, List.size_toArray, size_zeroCells, hz1, List.length_cons, List.length_nil]
      show fs.length + 1 + (grownCap w (fs.length + 1) old E - (fs.length + 1)) * 1 = _
      omega
    · simp only [Array.toList_append, Nat.mul_one]
      rw [show fs.length + 1 = (fs ++ [u]).length by simp]
      exact List.take_left
  have fgrown : ∀ (old : Nat) (row : Option Nat), w.grownBy (w.drew.alloc (.cells (fs.toArray ++ [u].toArray ++ Builtin.zeroCells z.cells (grownCap w (fs.length + 1) old E - (fs.length + 1))) E)) row :=
    fun old row => ⟨rfl, rfl, rfl, by simp, fun k hk _ => Below.heap_alloc w.drew _ k hk⟩
  rcases hown.2 with ⟨hv, hn⟩ | ⟨g, cap, cur, hv, hbg, hg, hnc, hcm, hcs, htake⟩
  · have hf : fs = [] := List.eq_nil_of_length_eq_zero hn
    subst hf; subst hv
    have hr := run_append_nil (P := P) w t ty E i z ht hi hz ad 1 c [u] (by simp [hsz]) hnews (by omega) (by omega) (by rw [hb]; simp only [List.length_nil, Nat.zero_add] at hbytes; omega)
    have h2 := fresh 0
    have h3 := fgrown 0 (Value.ownBlock (.slice none 0 0))
    simp only [List.length_nil, Nat.zero_add, List.nil_append, Array.empty_append] at h2 h3
    exact ⟨_, _, hr, h2, h3, .inr fun k hk => by simp [Value.ownBlock] at hk; omega⟩
  · subst hv
    by_cases hroom : fs.length + 1 ≤ cap
    · have hr := run_append_room (P := P) w t ty E i ht hi g fs.length cap cur hg ad 1 c [u] (by simp [hsz]) hnews (by intro u' hu'; simp at hu'; subst hu'; exact h1) hroom (by rw [hsz, hcs]; simp; omega)
      rw [hsz] at hr
      refine ⟨_, _, hr, ?_, ⟨rfl, rfl, rfl, by simp, fun k _ hk => setRow_other w g k _ (fun e => hk (by simp [Value.ownBlock, e]))⟩, .inl rfl⟩
      unfold Own
      rw [List.length_append]
      refine ⟨by simp, .inr ⟨g, cap, _, rfl, hbg, setRow_heap w g cur _ E _ hg, hroom, hcm, ?_, ?_⟩⟩
      · simp only [List.size_toArray, List.length_append, List.length_take, List.length_drop, Array.length_toList, List.length_singleton]
        omega
      · rw [htake]
        show List.take ((fs.length + 1) * 1) (fs ++ [u] ++ _) = _
        rw [show (fs.length + 1) * 1 = (fs ++ [u]).length by simp]
        exact List.take_left
    · have holds : ∀ (j : Nat) (u' : Value), fs[j]? = some u' → w.cell? ((⟨g, 0, none⟩ : Addr).add j) = some u' := hown.cells (g := g) rfl
      have hr := run_append_grow (P := P) w t ty E i z ht hi hz ⟨g, 0, none⟩ fs.length cap fs (by simp [hsz]) holds ad 1 c [u] (by simp [hsz]) hnews (by omega) (by omega) (by rw [hb]; exact growslice_fits (by omega) hbytes)
      refine ⟨_, _, hr, ?_, fgrown cap _, .inr fun k hk => by simp [Value.ownBlock] at hk; omega⟩
      unfold Own
      rw [List.length_append]
      exact fresh cap

/-- 'out = append(out, x)' of one element on a row of the call's own: x stands in a new cell. -/
theorem wpList_append_one {P : Program} {w : World} {ops : Array Oper} {rest : List Oper} {o : Oper} {a : Act} {Q : Exit → Act → World → Prop} (hgd : o.guard = none) (s x : Operand) (t : TypeId)
    (ho : o.op = .call { callee := .builtin .append, args := #[s, x], argTypes := #[t, t] })
    (E : TypeId) (z : Value) (bytes : Nat) (ht : P.underlying t = some (.slice E)) (hinfo : (P.info? E).map (fun i => (i.zero, i.size, i.bytes)) = some (some z, 1, bytes)) (hz1 : z.cells = #[z])
    (B : Nat) (v : Value) (fs : List Value) (hs : a.eval s = v) (hown : Own w B E v fs)
    (g : Nat) (u : Value) (hx : a.eval x = .slice (some ⟨g, 0, none⟩) 1 1) (hu : w.cell? ⟨g, 0, none⟩ = some u) (h1 : u.oneCell' = true)
    (hlen : fs.length + 1 ≤ maxLen) (hbytes : (fs.length + 1) * bytes ≤ 140737488355328)
    (W0 : World) (hB : W0.heap.size = B) (hext : Ext W0 w)
    (h : ∀ v' w', Own w' B E v' (fs ++ [u]) → Ext W0 w' → w.grownBy w' v.ownBlock ∧ Moved w v v' → wpList P ops Q rest (a.put o.dst v') w') : wpList P ops Q (o :: rest) a w := by
  obtain ⟨v', w', hr, h2, h3, h4⟩ := run_append_one (P := P) t o.type E z bytes ht hinfo hz1 B v fs hown ⟨g, 0, none⟩ 1 u hu h1 hlen hbytes (by rw [← hB]; exact hext.size)
  refine wpList_plain hgd fun K hK' => ?_
  unfold Oper.wp execOp
  simp only [ho, resolve, invoke, builtin, Sem.run_bind, Sem.run_pure, Result.andThen_ok, List.map_toArray, List.map_cons, List.map_nil, hs, hx, hr]
  refine hK' _ _ (h v' w' h2 (hext.grown h3 fun k hk => ?_) ⟨h3, h4⟩)
  have := (World.ownsRow.lt hown k hk).1
  omega

/-- Since the world W, in which the row was v0, memory has grown, and of what was there the row v0 alone was written. -/
structure Grew (W : World) (v0 : Value) (wr : World) (v : Value) : Prop where
  grown : W.grownBy wr v0.ownBlock
  blk : v.ownBlock = v0.ownBlock ∨ ∀ k, v.ownBlock = some k → W.heap.size ≤ k

theorem Grew.refl (W : World) (v : Value) : Grew W v W v := ⟨⟨rfl, rfl, rfl, Nat.le_refl _, fun _ _ _ => rfl⟩, .inl rfl⟩
theorem Grew.ext {W : World} {v0 : Value} {wr w' : World} {v : Value} (h : Grew W v0 wr v) (hx : Ext wr w') : Grew W v0 w' v :=
  ⟨⟨(Below.os hx).trans h.grown.os, (Below.tape hx).trans h.grown.tape, (Below.output hx).trans h.grown.output, Nat.le_trans h.grown.size hx.size, fun k hk hne => by
    rw [Below.block hx k (Nat.lt_of_lt_of_le hk h.grown.size)]
    exact h.grown.block k hk hne⟩, h.blk⟩
theorem Grew.step {W : World} {v0 : Value} {wr w' : World} {v v' : Value} (h : Grew W v0 wr v) (hg : wr.grownBy w' v.ownBlock ∧ Moved wr v v') : Grew W v0 w' v' := by
  obtain ⟨hg, hm⟩ := hg
  refine ⟨⟨hg.os.trans h.grown.os, hg.tape.trans h.grown.tape, hg.output.trans h.grown.output, Nat.le_trans h.grown.size hg.size, fun k hk hne => ?_⟩, ?_⟩
  · rw [hg.block k (Nat.lt_of_lt_of_le hk h.grown.size) ?_]
    · exact h.grown.block k hk hne
    · rcases h.blk with hb | hb
      · rw [hb]; exact hne
      · intro e
        have := hb k e.symm
        omega
  · rcases hm with hm | hm
    · rw [hm]; exact h.blk
    · exact .inr fun k hk => Nat.le_trans h.grown.size (hm k hk)
theorem Grew.cell {W : World} {v0 : Value} {wr : World} {v : Value} (h : Grew W v0 wr v) {a : Addr} {u : Value} (hc : W.cell? a = some u) (hne : v0.ownBlock ≠ some a.block) : wr.cell? a = some u :=
  (World.cell?_of_block (h.grown.block a.block (World.block_lt_of_cell? W a hc) (Ne.symm hne))).trans hc
theorem Grew.frozen {W : World} {v0 : Value} {wr : World} {v : Value} (h : Grew W v0 wr v) {a : Addr} (hb : a.block < W.heap.size) (hne : v0.ownBlock ≠ some a.block) : wr.frozen? a = W.frozen? a :=
  World.frozen?_of_block (h.grown.block a.block hb (Ne.symm hne))
theorem Grew.own {W : World} {v0 : Value} {wr : World} {v : Value} (h : Grew W v0 wr v) {B : Nat} {E : TypeId} {u : Value} {fs : List Value} (ho : Own W B E u fs) (hne : ∀ k, u.ownBlock = some k → v0.ownBlock ≠ some k) : Own wr B E u fs := by
  refine World.ownsRow.kept ho h.grown ?_
  cases hu : u.ownBlock with
  | none => exact .inl rfl
  | some k => exact .inr fun e => hne k hu e.symm
theorem Grew.reads {W : World} {v0 : Value} {wr : World} {v : Value} (h : Grew W v0 wr v) {u : Value} {fs : List Value} (ho : Reads W u fs) (hne : ∀ k, u.ownBlock = some k → v0.ownBlock ≠ some k) : Reads wr u fs := by
  obtain ⟨a, cap, hv, h1, h2, h3⟩ := ho
  refine ⟨a, cap, hv, h1, h2, fun i hi => ?_⟩
  obtain ⟨b, o, ha, hc⟩ := h3 i hi
  exact ⟨b, o, ha, h.cell hc (hne b (by rw [hv, ha]; rfl))⟩

/-! ### One block alone is written -/
theorem GB.refl (W : World) (row : Option Nat) : W.grownBy W row := ⟨rfl, rfl, rfl, Nat.le_refl _, fun _ _ _ => rfl⟩
theorem GB.ext {W wr w' : World} {row : Option Nat} (h : W.grownBy wr row) (hx : Ext wr w') : W.grownBy w' row :=
  ⟨(Below.os hx).trans h.os, (Below.tape hx).trans h.tape, (Below.output hx).trans h.output, Nat.le_trans h.size hx.size, fun k hk hne => by
    rw [Below.block hx k (Nat.lt_of_lt_of_le hk h.size)]
    exact h.block k hk hne⟩
theorem GB.setCell {W wr : World} {b : Nat} (h : W.grownBy wr (some b)) (o : Nat) (u : Value) : W.grownBy (wr.setCell ⟨b, o, none⟩ u) (some b) :=
  ⟨h.os, h.tape, h.output, by simpa [World.setCell] using h.size, fun k hk hne => by
    rw [Below.heap_setCell _ _ _ _ (fun e => hne (by rw [e]))]
    exact h.block k hk hne⟩
theorem GB.cell {W wr : World} {row : Option Nat} (h : W.grownBy wr row) {a : Addr} {u : Value} (hc : W.cell? a = some u) (hne : row ≠ some a.block) : wr.cell? a = some u :=
  (World.cell?_of_block (h.block a.block (World.block_lt_of_cell? W a hc) (Ne.symm hne))).trans hc
theorem GB.frozen {W wr : World} {row : Option Nat} (h : W.grownBy wr row) {a : Addr} (hb : a.block < W.heap.size) (hne : row ≠ some a.block) : wr.frozen? a = W.frozen? a :=
  World.frozen?_of_block (h.block a.block hb (Ne.symm hne))
theorem GB.own {W wr : World} {row : Option Nat} (h : W.grownBy wr row) {B : Nat} {E : TypeId} {u : Value} {fs : List Value} (ho : Own W B E u fs) (hne : ∀ k, u.ownBlock = some k → row ≠ some k) : Own wr B E u fs := by
  refine World.ownsRow.kept ho h ?_
  cases hu : u.ownBlock with
  | none => exact .inl rfl
  | some k => exact .inr fun e => hne k hu e.symm
end Go

/- Words by their index. No program in sight. -/
namespace Go.Cm

/-- the letter at an index -/
def letN (y : Nat) : UInt8 := UInt8.ofNat (97 + y)

/-- The word of length n with k letters at an index. -/
def wordL (k : Nat) : Nat → Nat → List UInt8
  | 0, _ => []
  | n + 1, i => wordL k n (i / k) ++ [letN (i % k)]
theorem wordL_length (k : Nat) : ∀ n i, (wordL k n i).length = n
  | 0, _ => rfl
  | n + 1, i => by simp [wordL, wordL_length k n]

/-- All words of a length. -/
def wordsL (k n : Nat) : List (List UInt8) := (List.range (k ^ n)).map (wordL k n)
/-- as texts -/
def mkS (l : List UInt8) : ByteArray := ⟨l.toArray⟩
theorem mkS_size (l : List UInt8) : (mkS l).size = l.length := by simp [mkS, ByteArray.size]
theorem mkS_data (l : List UInt8) : (mkS l).data.toList = l := by simp [mkS]

theorem mkS_get (l : List UInt8) (a : Nat) (h : a < (mkS l).size) : (mkS l)[a] = l.getD a 0 := by
  have h' : a < l.length := by rw [← mkS_size]; exact h
  show (mkS l).data[a]'h = _
  simp [mkS, List.getD_eq_getElem?_getD, List.getElem?_eq_getElem h']
theorem mkS_data_self (s : ByteArray) : mkS s.data.toList = s := by
  obtain ⟨⟨l⟩⟩ := s
  rfl

theorem mkS_append (l r : List UInt8) : mkS l ++ mkS r = mkS (l ++ r) := by
  show ByteArray.append _ _ = _
  apply ByteArray.ext
  simp [mkS, ByteArray.append]
theorem abc_at (y : Nat) (h : y < 3) : (ByteArray.mk #[97, 98, 99]).extract y (y + 1) = mkS [letN y] := by
  match y, h with
  | 0, _ => rfl
  | 1, _ => rfl
  | 2, _ => rfl

theorem range_mul (m k : Nat) : List.range (m * k) = (List.range m).flatMap fun q => (List.range k).map fun x => q * k + x := by
  induction m with
  | zero => simp
  | succ m ih =>
    rw [List.range_succ, List.flatMap_append, ← ih, Nat.succ_mul, List.range_add]
    simp

theorem wordsL_succ (k n : Nat) (hk : 0 < k) : wordsL k (n + 1) = (wordsL k n).flatMap fun u => (List.range k).map fun x => u ++ [letN x] := by
  unfold wordsL
  rw [Nat.pow_succ, range_mul, List.map_flatMap, List.flatMap_map]
  congr 1
  funext q
  rw [List.map_map]
  apply List.map_congr_left
  intro x hx
  have hx' : x < k := by simpa using hx
  simp only [Function.comp, wordL]
  have h1 : (q * k + x) / k = q := by
    rw [Nat.add_comm, Nat.add_mul_div_right _ _ hk, Nat.div_eq_of_lt hx', Nat.zero_add]
  have h2 : (q * k + x) % k = x := by
    rw [Nat.add_comm, Nat.add_mul_mod_self_right, Nat.mod_eq_of_lt hx']
  rw [h1, h2]
theorem wordsL_zero (k : Nat) : wordsL k 0 = [[]] := by simp [wordsL, wordL]

theorem ofNat_toNat {n : Nat} (h : n < 256) : ((UInt8.ofNat n).toNat : Int) = n := by
  have : (UInt8.ofNat n).toNat = n % 256 := by simp
  rw [this, Nat.mod_eq_of_lt h]
end Go.Cm

/- The places of a graph through which a way goes that is infinite in both directions: the steps that find them. No program in sight. -/
namespace Go.Cm

/-- the arcs of the first i places -/
def arcsTo (next : List (List Nat)) (i : Nat) : List (Nat × Nat) := (List.range i).flatMap fun a => (next.getD a []).map fun k => (a, k)
def arcsIn (next : List (List Nat)) (i p : Nat) : List (Nat × Nat) := arcsTo next i ++ ((next.getD i []).take p).map fun k => (i, k)
theorem arcsIn_zero (next : List (List Nat)) (i : Nat) : arcsIn next i 0 = arcsTo next i := by simp [arcsIn]
theorem arcsIn_succ (next : List (List Nat)) (i p : Nat) (h : p < (next.getD i []).length) : arcsIn next i (p + 1) = arcsIn next i p ++ [(i, (next.getD i []).getD p 0)] := by
  unfold arcsIn
  rw [List.take_succ_eq_append_getElem h, List.map_append, ← List.append_assoc, List.getD_eq_getElem?_getD (l := next.getD i []), List.getElem?_eq_getElem h]
  rfl
theorem arcsIn_all (next : List (List Nat)) (i : Nat) : arcsIn next i (next.getD i []).length = arcsTo next (i + 1) := by
  unfold arcsIn arcsTo
  rw [List.take_length, List.range_succ, List.flatMap_append]
  simp

def onB (l : List Bool) (p : Nat × Nat) : Bool := l.getD p.1 false && l.getD p.2 false
/-- from which places an arc goes on, among these arcs -/
def fromL (n : Nat) (l : List Bool) (P : List (Nat × Nat)) : List Bool := (List.range n).map fun i => P.any fun p => p.1 == i && onB l p
/-- to which -/
def toL (n : Nat) (l : List Bool) (P : List (Nat × Nat)) : List Bool := (List.range n).map fun i => P.any fun p => p.2 == i && onB l p
theorem fromL_nil (n : Nat) (l : List Bool) : fromL n l [] = List.replicate n false := by
  apply List.ext_getElem
  · simp [fromL]
  · intro i h1 h2; simp [fromL]
theorem toL_nil (n : Nat) (l : List Bool) : toL n l [] = List.replicate n false := by
  apply List.ext_getElem
  · simp [toL]
  · intro i h1 h2; simp [toL]
theorem fromL_length (n : Nat) (l : List Bool) (P : List (Nat × Nat)) : (fromL n l P).length = n := by simp [fromL]
theorem toL_length (n : Nat) (l : List Bool) (P : List (Nat × Nat)) : (toL n l P).length = n := by simp [toL]
theorem fromL_on {n : Nat} {l : List Bool} {P : List (Nat × Nat)} {p : Nat × Nat} (h : onB l p = true) : fromL n l (P ++ [p]) = (fromL n l P).set p.1 true := by
  apply List.ext_getElem
  · simp [fromL]
  · intro i h1 h2
    rw [List.getElem_set]
    simp only [fromL, List.getElem_map, List.getElem_range, List.any_append, List.any_cons, List.any_nil, Bool.or_false, h, Bool.and_true]
    by_cases e : p.1 = i
    · simp [e]
    · simp [e]
theorem toL_on {n : Nat} {l : List Bool} {P : List (Nat × Nat)} {p : Nat × Nat} (h : onB l p = true) : toL n l (P ++ [p]) = (toL n l P).set p.2 true := by
  apply List.ext_getElem
  · simp [toL]
  · intro i h1 h2
    rw [List.getElem_set]
    simp only [toL, List.getElem_map, List.getElem_range, List.any_append, List.any_cons, List.any_nil, Bool.or_false, h, Bool.and_true]
    by_cases e : p.2 = i
    · simp [e]
    · simp [e]
theorem fromL_off {n : Nat} {l : List Bool} {P : List (Nat × Nat)} {p : Nat × Nat} (h : onB l p = false) : fromL n l (P ++ [p]) = fromL n l P := by
  unfold fromL
  apply List.map_congr_left
  intro i _
  simp [h]
theorem toL_off {n : Nat} {l : List Bool} {P : List (Nat × Nat)} {p : Nat × Nat} (h : onB l p = false) : toL n l (P ++ [p]) = toL n l P := by
  unfold toL
  apply List.map_congr_left
  intro i _
  simp [h]

/-- stays a place? -/
def stayB (next : List (List Nat)) (l : List Bool) (i : Nat) : Bool := (fromL next.length l (arcsTo next next.length)).getD i false && (toL next.length l (arcsTo next next.length)).getD i false
/-- one step, done for the first i places -/
def liveMix (next : List (List Nat)) (l : List Bool) (i : Nat) : List Bool := (List.range next.length).map fun j => l.getD j false && (stayB next l j || !decide (j < i))
def liveStep (next : List (List Nat)) (l : List Bool) : List Bool := liveMix next l next.length
theorem liveMix_length (next : List (List Nat)) (l : List Bool) (i : Nat) : (liveMix next l i).length = next.length := by simp [liveMix]
theorem liveMix_zero (next : List (List Nat)) (l : List Bool) (h : l.length = next.length) : liveMix next l 0 = l := by
  apply List.ext_getElem
  · simp [liveMix, h]
  · intro i h1 h2
    simp [liveMix, List.getD_eq_getElem?_getD, List.getElem?_eq_getElem h2]
theorem liveMix_at (next : List (List Nat)) (l : List Bool) (i : Nat) (h : i < next.length) : (liveMix next l i).getD i false = l.getD i false := by
  rw [List.getD_eq_getElem?_getD, List.getElem?_eq_getElem (by rw [liveMix_length]; exact h)]
  simp [liveMix]
theorem liveMix_succ (next : List (List Nat)) (l : List Bool) (i : Nat) (_ : i < next.length) : liveMix next l (i + 1) = (liveMix next l i).set i (l.getD i false && stayB next l i) := by
  apply List.ext_getElem
  · simp [liveMix]
  · intro j h1 h2
    rw [List.getElem_set]
    simp only [liveMix, List.getElem_map, List.getElem_range]
    by_cases e : i = j
    · subst e; simp
    · have : decide (j < i + 1) = decide (j < i) := by rw [decide_eq_decide]; omega
      simp [e, this]
/-- has one of the first i places gone? -/
def goneL (next : List (List Nat)) (l : List Bool) (i : Nat) : Bool := (List.range i).any fun j => l.getD j false && !stayB next l j
theorem live_still {next : List (List Nat)} {l : List Bool} (h : l.length = next.length) (hg : goneL next l next.length = false) : liveStep next l = l := by
  apply List.ext_getElem
  · simp [liveStep, liveMix, h]
  · intro i h1 h2
    simp only [liveStep, liveMix, List.getElem_map, List.getElem_range]
    have hi : i < next.length := by omega
    have hh : (l.getD i false && !stayB next l i) = false := by
      unfold goneL at hg
      rw [List.any_eq_false] at hg
      simpa using hg i (by simpa using hi)
    have e : l.getD i false = l[i] := by simp [List.getD_eq_getElem?_getD, List.getElem?_eq_getElem h2]
    rw [e] at hh ⊢
    cases h1 : l[i] <;> cases h2 : stayB next l i <;> simp_all
/-- how many are left -/
def cntT (l : List Bool) : Nat := (l.map fun b => if b = true then 1 else 0).sum
theorem cntT_le (l : List Bool) : cntT l ≤ l.length := by
  unfold cntT
  induction l with
  | nil => simp
  | cons a l ih => cases a <;> simp <;> omega
theorem cntT_mono : ∀ {l l' : List Bool}, l.length = l'.length → (∀ j, l'.getD j false = true → l.getD j false = true) → cntT l' ≤ cntT l
  | [], [], _, _ => Nat.le_refl _
  | [], _ :: _, h, _ => by simp at h
  | _ :: _, [], h, _ => by simp at h
  | b :: l, b' :: l', hl, hle => by
    have := cntT_mono (l := l) (l' := l') (by simpa using hl) (fun j hj => by simpa using hle (j + 1) (by simpa using hj))
    have h0 : b' = true → b = true := by simpa using hle 0
    simp only [cntT, List.map_cons, List.sum_cons] at this ⊢
    cases b <;> cases b' <;> simp_all <;> omega
theorem cntT_lt : ∀ {l l' : List Bool} {i : Nat}, l.length = l'.length → (∀ j, l'.getD j false = true → l.getD j false = true) → l.getD i false = true → l'.getD i false = false → cntT l' < cntT l
  | [], _, _, _, _, h, _ => by simp at h
  | a :: l, [], _, h, _, _, _ => by simp at h
  | a :: l, a' :: l', i, hl, hle, h1, h2 => by
    have hl' : l.length = l'.length := by simpa using hl
    have hle' : ∀ j, l'.getD j false = true → l.getD j false = true := fun j hj => by simpa using hle (j + 1) (by simpa using hj)
    have h0 : a' = true → a = true := by simpa using hle 0
    have hc := cntT_mono hl' hle'
    cases i with
    | zero =>
      have e1 : a = true := by simpa using h1
      have e2 : a' = false := by simpa using h2
      subst e1 e2
      simp only [cntT, List.map_cons, List.sum_cons] at hc ⊢
      simp
      omega
    | succ i =>
      have := cntT_lt hl' hle' (by simpa using h1) (by simpa using h2)
      simp only [cntT, List.map_cons, List.sum_cons] at this ⊢
      cases a <;> cases a' <;> simp_all <;> omega
theorem live_less {next : List (List Nat)} {l : List Bool} (h : l.length = next.length) (hg : goneL next l next.length = true) : cntT (liveStep next l) < cntT l := by
  unfold goneL at hg
  rw [List.any_eq_true] at hg
  obtain ⟨i, hi, hh⟩ := hg
  have hi' : i < next.length := by simpa using hi
  simp only [Bool.and_eq_true, Bool.not_eq_true'] at hh
  have hget : ∀ j, (liveStep next l).getD j false = (l.getD j false && (stayB next l j && decide (j < next.length))) := by
    intro j
    by_cases hj : j < next.length
    · rw [List.getD_eq_getElem?_getD, List.getElem?_eq_getElem (by simpa [liveStep, liveMix] using hj)]
      simp [liveStep, liveMix, hj]
    · rw [List.getD_eq_getElem?_getD, List.getElem?_eq_none (by simp [liveStep, liveMix]; omega)]
      simp [hj]
  refine cntT_lt (i := i) (by simp [liveStep, liveMix, h]) (fun j hj => ?_) hh.1 ?_
  · rw [hget] at hj
    simp only [Bool.and_eq_true] at hj
    exact hj.1
  · rw [hget, hh.2]; simp

/-- so many steps -/
def liveN (next : List (List Nat)) : Nat → List Bool
  | 0 => List.replicate next.length true
  | k + 1 => liveStep next (liveN next k)
theorem liveN_length (next : List (List Nat)) : ∀ k, (liveN next k).length = next.length
  | 0 => by simp [liveN]
  | k + 1 => by simp [liveN, liveStep, liveMix]
theorem liveN_still {next : List (List Nat)} {k : Nat} (h : liveStep next (liveN next k) = liveN next k) : ∀ j, liveN next (k + j) = liveN next k
  | 0 => rfl
  | j + 1 => by rw [← Nat.add_assoc, liveN, liveN_still h j, h]
/-- the lively places -/
def livelyL (next : List (List Nat)) : List Bool := liveN next next.length
theorem livelyL_of {next : List (List Nat)} {k : Nat} (hk : cntT (liveN next k) + k ≤ next.length) (hg : goneL next (liveN next k) next.length = false) : liveN next k = livelyL next := by
  have := liveN_still (live_still (liveN_length next k) hg) (next.length - k)
  rw [show k + (next.length - k) = next.length by omega] at this
  exact this.symm
end Go.Cm

/- Shifts told by forbidden words: plain laws. No program in sight. -/
namespace Go.Cm

/-- one word is a part of another one -/
def occ (w f : List UInt8) : Bool := Go.Lib.contains w f
theorem occAt_iff (s f : List UInt8) (i : Nat) : Go.Lib.occAt s f i = true ↔ f <+: s.drop i := by
  unfold Go.Lib.occAt
  exact List.isPrefixOf_iff_prefix
theorem occ_iff (s f : List UInt8) : occ s f = true ↔ f <:+: s := by
  unfold occ Go.Lib.contains
  rw [decide_eq_true_iff]
  constructor
  · intro h
    rcases Go.Lib.index_spec s f with ⟨h1, _⟩ | ⟨i, _, _, h3, _⟩
    · omega
    · rw [occAt_iff] at h3
      exact h3.isInfix.trans (List.drop_suffix i s).isInfix
  · rintro ⟨a, b, rfl⟩
    rcases Go.Lib.index_spec (a ++ f ++ b) f with ⟨_, h2⟩ | ⟨i, h1, _⟩
    · have h3 := h2 a.length (by simp)
      have h4 : Go.Lib.occAt (a ++ f ++ b) f a.length = true := by
        rw [occAt_iff, List.append_assoc, List.drop_left]
        exact List.prefix_append f b
      rw [h3] at h4
      cases h4
    · omega
theorem occ_trans {a b c : List UInt8} (h1 : occ a b = true) (h2 : occ b c = true) : occ a c = true := by
  rw [occ_iff] at h1 h2 ⊢
  exact h2.trans h1
/-- at a place -/
def atB (s f : List UInt8) (i : Nat) : Bool := (s.drop i).take f.length == f
theorem occ_of_at {s f : List UInt8} {i : Nat} (h : atB s f i = true) : occ s f = true := by
  rw [occ_iff]
  have e : (s.drop i).take f.length = f := by simpa [atB] using h
  rw [← e]
  exact (List.take_prefix _ _).isInfix.trans (List.drop_suffix i s).isInfix
theorem occ_none {s f : List UInt8} (h : ∀ i, i + f.length ≤ s.length → atB s f i = false) : occ s f = false := by
  rw [Bool.eq_false_iff]
  intro ho
  rw [occ_iff] at ho
  obtain ⟨a, b, rfl⟩ := ho
  have h1 := h a.length (by simp)
  have h2 : atB (a ++ f ++ b) f a.length = true := by
    unfold atB
    rw [List.append_assoc, List.drop_left, List.take_left]
    simp
  rw [h1] at h2
  cases h2

/-- no forbidden word is a part -/
def avoidL (F : List (List UInt8)) (w : List UInt8) : Bool := F.all fun f => !occ w f
theorem avoidL_bad {F : List (List UInt8)} {w f : List UInt8} (hf : f ∈ F) (h : occ w f = true) : avoidL F w = false := by
  unfold avoidL
  rw [List.all_eq_false]
  exact ⟨f, hf, by rw [h]; simp⟩
theorem avoidL_part {F : List (List UInt8)} {u w : List UInt8} (h : avoidL F u = true) (ho : occ u w = true) : avoidL F w = true := by
  unfold avoidL at h ⊢
  rw [List.all_eq_true] at h ⊢
  intro f hf
  have := h f hf
  cases hw : occ w f with
  | false => rfl
  | true => rw [occ_trans ho hw] at this; exact this

/-- a pair of letters with another one behind it -/
def adjL (F : List (List UInt8)) (u v : List UInt8) : Bool := (u.getD 1 0 == v.getD 0 0) && avoidL F (u ++ v.drop 1)
/-- the avoiding words of a length -/
def avoidsN (K : Nat) (F : List (List UInt8)) (n : Nat) : List (List UInt8) := (wordsL K n).filter (avoidL F)
/-- the arcs between some pairs -/
def nextL (F : List (List UInt8)) (ps : List (List UInt8)) : List (List Nat) := ps.map fun u => (List.range ps.length).filter fun k => adjL F u (ps.getD k [])
theorem nextL_length (F ps : List (List UInt8)) : (nextL F ps).length = ps.length := by simp [nextL]
theorem nextL_at (F ps : List (List UInt8)) (a : Nat) (h : a < ps.length) : (nextL F ps).getD a [] = (List.range ps.length).filter fun k => adjL F (ps.getD a []) (ps.getD k []) := by
  unfold nextL
  rw [List.getD_eq_getElem?_getD, List.getElem?_map, List.getElem?_eq_getElem h]
  simp [List.getD_eq_getElem?_getD, List.getElem?_eq_getElem h]

/-- those of the first k that are marked -/
def keepTo (ps : List (List UInt8)) (l : List Bool) (k : Nat) : List (List UInt8) := ((List.range k).filter fun j => l.getD j false).map fun j => ps.getD j []
def keepL (ps : List (List UInt8)) (l : List Bool) : List (List UInt8) := keepTo ps l ps.length
theorem keepTo_yes {ps : List (List UInt8)} {l : List Bool} {k : Nat} (h : l.getD k false = true) : keepTo ps l (k + 1) = keepTo ps l k ++ [ps.getD k []] := by
  unfold keepTo
  rw [List.range_succ, List.filter_append, List.map_append, List.filter_cons_of_pos (by exact h)]
  rfl
theorem keepTo_no {ps : List (List UInt8)} {l : List Bool} {k : Nat} (h : l.getD k false = false) : keepTo ps l (k + 1) = keepTo ps l k := by
  unfold keepTo
  rw [List.range_succ, List.filter_append, List.map_append, List.filter_cons_of_neg (by rw [h]; simp)]
  exact List.append_nil _
theorem keepTo_length_le (ps : List (List UInt8)) (l : List Bool) (k : Nat) : (keepTo ps l k).length ≤ k := by
  unfold keepTo
  rw [List.length_map]
  have := List.length_filter_le (fun j => l.getD j false) (List.range k)
  rw [List.length_range] at this
  exact this
theorem keepTo_mem {ps : List (List UInt8)} {l : List Bool} {u : List UInt8} (h : u ∈ keepL ps l) : u ∈ ps := by
  unfold keepL keepTo at h
  obtain ⟨j, hj, rfl⟩ := List.mem_map.1 h
  have h1 := List.mem_range.1 (List.mem_filter.1 hj).1
  rw [List.getD_eq_getElem?_getD, List.getElem?_eq_getElem h1]
  exact List.getElem_mem h1
theorem keepL_any (ps : List (List UInt8)) (l : List Bool) (g : List UInt8 → Bool) : (keepL ps l).any g = true ↔ ∃ k, k < ps.length ∧ l.getD k false = true ∧ g (ps.getD k []) = true := by
  unfold keepL keepTo
  rw [List.any_eq_true]
  constructor
  · rintro ⟨x, hx, hg⟩
    obtain ⟨k, hk, rfl⟩ := List.mem_map.1 hx
    exact ⟨k, List.mem_range.1 (List.mem_filter.1 hk).1, (List.mem_filter.1 hk).2, hg⟩
  · rintro ⟨k, h1, h2, h3⟩
    exact ⟨_, List.mem_map.2 ⟨k, List.mem_filter.2 ⟨List.mem_range.2 h1, h2⟩, rfl⟩, h3⟩
/-- a pair has one behind it and one ahead of it in a list -/
def goesB (F out : List (List UInt8)) (u : List UInt8) : Bool := (out.any fun v => adjL F u v) && (out.any fun v => adjL F v u)

theorem liveStep_at (next : List (List Nat)) (l : List Bool) (k : Nat) (hk : k < next.length) : (liveStep next l).getD k false = (l.getD k false && stayB next l k) := by
  unfold liveStep liveMix
  rw [List.getD_eq_getElem?_getD, List.getElem?_map, List.getElem?_range hk]
  simp [hk]
theorem arcs_any (next : List (List Nat)) (n : Nat) (g : Nat × Nat → Bool) : (arcsTo next n).any g = true ↔ ∃ a j, a < n ∧ j ∈ next.getD a [] ∧ g (a, j) = true := by
  unfold arcsTo
  rw [List.any_eq_true]
  constructor
  · rintro ⟨p, hp, hg⟩
    obtain ⟨a, ha, hp⟩ := List.mem_flatMap.1 hp
    obtain ⟨j, hj, rfl⟩ := List.mem_map.1 hp
    exact ⟨a, j, List.mem_range.1 ha, hj, hg⟩
  · rintro ⟨a, j, h1, h2, h3⟩
    exact ⟨(a, j), List.mem_flatMap.2 ⟨a, List.mem_range.2 h1, List.mem_map.2 ⟨j, h2, rfl⟩⟩, h3⟩
theorem fromL_at (n : Nat) (l : List Bool) (P : List (Nat × Nat)) (k : Nat) (hk : k < n) : (fromL n l P).getD k false = P.any fun p => p.1 == k && onB l p := by
  unfold fromL
  rw [List.getD_eq_getElem?_getD, List.getElem?_map, List.getElem?_range hk]
  rfl
theorem toL_at (n : Nat) (l : List Bool) (P : List (Nat × Nat)) (k : Nat) (hk : k < n) : (toL n l P).getD k false = P.any fun p => p.2 == k && onB l p := by
  unfold toL
  rw [List.getD_eq_getElem?_getD, List.getElem?_map, List.getElem?_range hk]
  rfl

theorem stay_goes (F ps : List (List UInt8)) (l : List Bool) (k : Nat) (hk : k < ps.length) (hl : l.getD k false = true) : stayB (nextL F ps) l k = goesB F (keepL ps l) (ps.getD k []) := by
  unfold stayB goesB
  rw [nextL_length, fromL_at _ _ _ _ hk, toL_at _ _ _ _ hk]
  congr 1
  · rw [Bool.eq_iff_iff, arcs_any, keepL_any]
    constructor
    · rintro ⟨a, j, ha, hj, hg⟩
      rw [nextL_at F ps a ha] at hj
      have h1 := List.mem_range.1 (List.mem_filter.1 hj).1
      have h2 := (List.mem_filter.1 hj).2
      simp only [onB, Bool.and_eq_true, beq_iff_eq] at hg
      obtain ⟨rfl, _, h3⟩ := hg
      exact ⟨j, h1, h3, h2⟩
    · rintro ⟨j, h1, h2, h3⟩
      refine ⟨k, j, hk, ?_, ?_⟩
      · rw [nextL_at F ps k hk]
        exact List.mem_filter.2 ⟨List.mem_range.2 h1, h3⟩
      · simp only [onB, Bool.and_eq_true, beq_iff_eq]
        exact ⟨trivial, hl, h2⟩
  · rw [Bool.eq_iff_iff, arcs_any, keepL_any]
    constructor
    · rintro ⟨a, j, ha, hj, hg⟩
      rw [nextL_at F ps a ha] at hj
      have h2 := (List.mem_filter.1 hj).2
      simp only [onB, Bool.and_eq_true, beq_iff_eq] at hg
      obtain ⟨rfl, h3, _⟩ := hg
      exact ⟨a, ha, h3, h2⟩
    · rintro ⟨j, h1, h2, h3⟩
      refine ⟨j, k, h1, ?_, ?_⟩
      · rw [nextL_at F ps j h1]
        exact List.mem_filter.2 ⟨List.mem_range.2 hk, h3⟩
      · simp only [onB, Bool.and_eq_true, beq_iff_eq]
        exact ⟨trivial, h2, hl⟩

/-- one round of the reference's search -/
theorem keep_step (F ps : List (List UInt8)) (l : List Bool) : (keepL ps l).filter (goesB F (keepL ps l)) = keepL ps (liveStep (nextL F ps) l) := by
  have e : ∀ g : List UInt8 → Bool, (keepL ps l).filter g = ((List.range ps.length).filter fun j => l.getD j false && g (ps.getD j [])).map fun j => ps.getD j [] := by
    intro g
    unfold keepL keepTo
    rw [List.filter_map, List.filter_filter]
    congr 1
    apply List.filter_congr
    intro j _
    simp [Bool.and_comm]
  rw [e]
  unfold keepL keepTo
  congr 1
  apply List.filter_congr
  intro j hj
  have hj' := List.mem_range.1 hj
  rw [liveStep_at _ _ _ (by rw [nextL_length]; exact hj')]
  cases hl : l.getD j false with
  | false => rfl
  | true =>
    rw [stay_goes F ps l j hj' hl]
    rfl

theorem keepTo_cnt (ps : List (List UInt8)) (l : List Bool) : ∀ k, k ≤ l.length → (keepTo ps l k).length = cntT (l.take k)
  | 0, _ => by simp [keepTo, cntT]
  | k + 1, h => by
    have ih := keepTo_cnt ps l k (by omega)
    have ht : l.take (k + 1) = l.take k ++ [l.getD k false] := by
      rw [List.take_succ_eq_append_getElem (by omega), List.getD_eq_getElem?_getD, List.getElem?_eq_getElem (by omega)]
      rfl
    rw [ht]
    cases hl : l.getD k false with
    | false =>
      rw [keepTo_no hl, ih]
      simp [cntT]
    | true =>
      rw [keepTo_yes hl, List.length_append, ih]
      simp [cntT]
theorem keepL_cnt {ps : List (List UInt8)} {l : List Bool} (h : l.length = ps.length) : (keepL ps l).length = cntT l := by
  unfold keepL
  rw [← h, keepTo_cnt ps l l.length (Nat.le_refl _), List.take_length]
theorem liveN_keep_all (ps : List (List UInt8)) : keepL ps (List.replicate ps.length true) = ps := by
  unfold keepL keepTo
  rw [List.filter_eq_self.2 (fun j hj => by
    have := List.mem_range.1 hj
    simp [List.getD_eq_getElem?_getD, this])]
  apply List.ext_getElem
  · simp
  · intro i h1 h2
    simp [List.getD_eq_getElem?_getD, h2]

/-- the pairs that go on in both directions -/
def statesOf (F ps : List (List UInt8)) : List (List UInt8) := keepL ps (livelyL (nextL F ps))
def statesL (K : Nat) (F : List (List UInt8)) : List (List UInt8) := statesOf F (avoidsN K F 2)
theorem statesL_avoid {K : Nat} {F : List (List UInt8)} {u : List UInt8} (h : u ∈ statesL K F) : avoidL F u = true := (List.mem_filter.1 (keepTo_mem h)).2
theorem statesL_word {K : Nat} {F : List (List UInt8)} {u : List UInt8} (h : u ∈ statesL K F) : u ∈ wordsL K 2 := (List.mem_filter.1 (keepTo_mem h)).1
/-- the state of the reference's search -/
def PairSt (F ps : List (List UInt8)) (out : List (List UInt8)) : Prop := ∃ k, out = keepL ps (liveN (nextL F ps) k) ∧ cntT (liveN (nextL F ps) k) + k ≤ ps.length
theorem PairSt.start (F ps : List (List UInt8)) : PairSt F ps ps := by
  refine ⟨0, ?_, ?_⟩
  · unfold liveN
    rw [nextL_length]
    exact (liveN_keep_all ps).symm
  · have := cntT_le (liveN (nextL F ps) 0)
    rw [liveN_length, nextL_length] at this
    omega
theorem PairSt.step {F ps out : List (List UInt8)} (h : PairSt F ps out) :
    (out.filter (goesB F out)).length ≤ out.length ∧
    ((out.filter (goesB F out)).length = out.length → out = statesOf F ps) ∧
    (¬ (out.filter (goesB F out)).length = out.length → PairSt F ps (out.filter (goesB F out))) := by
  obtain ⟨k, rfl, hk⟩ := h
  have hlen := liveN_length (nextL F ps) k
  have hlen' : (liveN (nextL F ps) k).length = ps.length := by rw [hlen, nextL_length]
  have hs : (liveStep (nextL F ps) (liveN (nextL F ps) k)).length = ps.length := by
    have := liveN_length (nextL F ps) (k + 1)
    rw [nextL_length] at this
    exact this
  refine ⟨List.length_filter_le _ _, fun he => ?_, fun hne => ?_⟩
  · rw [keep_step, keepL_cnt hs, keepL_cnt hlen'] at he
    have hg : goneL (nextL F ps) (liveN (nextL F ps) k) (nextL F ps).length = false := by
      rw [Bool.eq_false_iff]
      intro hg
      have := live_less hlen hg
      omega
    rw [livelyL_of (k := k) (by rw [nextL_length]; exact hk) hg]
    rfl
  · refine ⟨k + 1, by rw [keep_step]; rfl, ?_⟩
    have hg : goneL (nextL F ps) (liveN (nextL F ps) k) (nextL F ps).length = true := by
      cases hg : goneL (nextL F ps) (liveN (nextL F ps) k) (nextL F ps).length with
      | true => rfl
      | false =>
        exfalso
        apply hne
        rw [keep_step, live_still hlen hg]
    have := live_less hlen hg
    show cntT (liveStep _ _) + (k + 1) ≤ _
    omega

/-- is a word in the language, for the states of a shift -/
def hasL (F st : List (List UInt8)) (w : List UInt8) : Bool :=
  if w.length < 2 then st.any fun u => occ u w
  else avoidL F w && ((st.any fun u => u == w.take 2) && (st.any fun u => u == w.drop (w.length - 2)))
/-- .. by the reference -/
def hasS (F st : List (List UInt8)) (w : List UInt8) : Bool :=
  if st.length = 0 ∨ avoidL F w = false then false
  else if w.length < 2 then st.any fun u => occ u w
  else (st.any fun u => u == w.take 2) && (st.any fun u => u == w.drop (w.length - 2))
theorem hasS_eq {F st : List (List UInt8)} (h : ∀ u ∈ st, avoidL F u = true) (w : List UInt8) : hasS F st w = hasL F st w := by
  unfold hasS hasL
  by_cases h0 : st.length = 0
  · have : st = [] := List.eq_nil_of_length_eq_zero h0
    subst this
    simp
  · by_cases ha : avoidL F w = false
    · rw [if_pos (Or.inr ha)]
      by_cases hw : w.length < 2
      · rw [if_pos hw]
        symm
        rw [List.any_eq_false]
        intro u hu ho
        rw [avoidL_part (h u hu) ho] at ha
        cases ha
      · rw [if_neg hw, ha]; rfl
    · rw [if_neg (by simp [h0, ha])]
      by_cases hw : w.length < 2
      · rw [if_pos hw, if_pos hw]
      · rw [if_neg hw, if_neg hw]
        have : avoidL F w = true := by simpa using ha
        rw [this, Bool.true_and]
/-- the words of a length in the language -/
def languageL (K : Nat) (F : List (List UInt8)) (n : Nat) : List (List UInt8) := (wordsL K n).filter (hasL F (statesL K F))

/-! ### valid shifts -/
def lessW (a b : List UInt8) : Bool := Go.Op.bytesLess a b
def shOkAt (L : Int) (F : List (List UInt8)) (k : Nat) : Bool := (areLet L (F.getD k []) && (decide (1 ≤ (F.getD k []).length) && decide ((F.getD k []).length ≤ 3))) && (decide (k = 0) || lessW (F.getD (k - 1) []) (F.getD k []))
def shiftOk (L : Int) (F : List (List UInt8)) : Bool := ((decide (1 ≤ L) && decide (L ≤ 3)) && decide (F.length ≤ 8)) && (List.range F.length).all (shOkAt L F)
theorem shiftOk_head {L : Int} {F : List (List UInt8)} (h : ¬ (1 ≤ L ∧ L ≤ 3) ∨ ¬ F.length ≤ 8) : shiftOk L F = false := by
  unfold shiftOk
  rcases h with h | h
  · have : (decide (1 ≤ L) && decide (L ≤ 3)) = false := by simp; omega
    rw [this]; rfl
  · rw [decide_eq_false h]; simp
theorem shiftOk_bad {L : Int} {F : List (List UInt8)} {k : Nat} (hk : k < F.length) (h : shOkAt L F k = false) : shiftOk L F = false := by
  unfold shiftOk
  rw [show (List.range F.length).all (shOkAt L F) = false by rw [List.all_eq_false]; exact ⟨k, List.mem_range.2 hk, by rw [h]; simp⟩, Bool.and_false]
theorem shiftOk_all {L : Int} {F : List (List UInt8)} (h : ∀ j, j < F.length → shOkAt L F j = true) : shiftOk L F = ((decide (1 ≤ L) && decide (L ≤ 3)) && decide (F.length ≤ 8)) := by
  unfold shiftOk
  rw [show (List.range F.length).all (shOkAt L F) = true by rw [List.all_eq_true]; intro j hj; exact h j (List.mem_range.1 hj), Bool.and_true]
/-- what a valid shift is -/
structure ShFit (K : Nat) (F : List (List UInt8)) : Prop where
  k1 : 1 ≤ K
  k3 : K ≤ 3
  n8 : F.length ≤ 8
  word : ∀ f ∈ F, areLet K f = true ∧ 1 ≤ f.length ∧ f.length ≤ 3
  asc : ∀ j, j + 1 < F.length → lessW (F.getD j []) (F.getD (j + 1) []) = true
theorem ShFit.of {L : Int} {F : List (List UInt8)} (h : shiftOk L F = true) : ∃ K : Nat, L = K ∧ ShFit K F := by
  unfold shiftOk at h
  simp only [Bool.and_eq_true, decide_eq_true_eq, List.all_eq_true] at h
  obtain ⟨⟨⟨h1, h2⟩, h3⟩, h4⟩ := h
  refine ⟨L.toNat, by omega, ⟨by omega, by omega, h3, fun f hf => ?_, fun j hj => ?_⟩⟩
  · obtain ⟨i, hi, rfl⟩ := List.mem_iff_getElem.1 hf
    have := h4 i (List.mem_range.2 hi)
    unfold shOkAt at this
    simp only [Bool.and_eq_true, decide_eq_true_eq, List.getD_eq_getElem?_getD, List.getElem?_eq_getElem hi, Option.getD_some] at this
    rw [show ((L.toNat : Nat) : Int) = L by omega]
    exact ⟨this.1.1, this.1.2.1, this.1.2.2⟩
  · have := h4 (j + 1) (List.mem_range.2 hj)
    unfold shOkAt at this
    simp only [Bool.and_eq_true, Bool.or_eq_true, decide_eq_true_eq] at this
    have h5 := this.2
    rcases h5 with h5 | h5
    · omega
    · simpa using h5
theorem ShFit.ok {K : Nat} {F : List (List UInt8)} (h : ShFit K F) : shiftOk K F = true := by
  have := h.k1
  have := h.k3
  rw [shiftOk_all fun j hj => ?_]
  · simp only [Bool.and_eq_true, decide_eq_true_eq]
    exact ⟨⟨by omega, by omega⟩, h.n8⟩
  · unfold shOkAt
    have hm : F.getD j [] ∈ F := by
      rw [List.getD_eq_getElem?_getD, List.getElem?_eq_getElem hj]
      exact List.getElem_mem hj
    obtain ⟨h1, h2, h3⟩ := h.word _ hm
    simp only [Bool.and_eq_true, Bool.or_eq_true, decide_eq_true_eq]
    refine ⟨⟨h1, h2, h3⟩, ?_⟩
    by_cases hj0 : j = 0
    · exact .inl hj0
    · right
      have := h.asc (j - 1) (by omega)
      rwa [show j - 1 + 1 = j by omega] at this
end Go.Cm

/- Plain facts of counting for the theorems on words: pigeons, growth, words in two parts. No program in sight. -/
namespace Go.Cm

/-- a word in two parts -/
theorem wordsL_add (k a : Nat) (hk : 0 < k) : ∀ b, wordsL k (a + b) = (wordsL k a).flatMap fun s => (wordsL k b).map fun t => s ++ t
  | 0 => by simp [wordsL_zero]
  | b + 1 => by
    rw [← Nat.add_assoc, wordsL_succ k (a + b) hk, wordsL_add k a hk b, wordsL_succ k b hk, List.flatMap_assoc]
    congr 1
    funext s
    rw [List.flatMap_map, List.map_flatMap]
    congr 1
    funext t
    simp
end Go.Cm

/- Plain laws: the states of a shift are the greatest set of pairs that go on in both directions. No program in sight. -/
namespace Go.Cm

theorem goes_mono {F S T : List (List UInt8)} (h : ∀ v ∈ S, v ∈ T) {u : List UInt8} (hg : goesB F S u = true) : goesB F T u = true := by
  unfold goesB at *
  rw [Bool.and_eq_true, List.any_eq_true, List.any_eq_true] at *
  obtain ⟨⟨v, h1, h2⟩, ⟨x, h3, h4⟩⟩ := hg
  exact ⟨⟨v, h v h1, h2⟩, ⟨x, h x h3, h4⟩⟩
theorem states_fix (F ps : List (List UInt8)) : ∀ (n : Nat) (out : List (List UInt8)), out.length ≤ n → PairSt F ps out →
    (∀ S : List (List UInt8), (∀ u ∈ S, u ∈ ps) → (∀ u ∈ S, goesB F S u = true) → ∀ u ∈ S, u ∈ out) →
    (∀ u ∈ statesOf F ps, goesB F (statesOf F ps) u = true) ∧ (∀ S : List (List UInt8), (∀ u ∈ S, u ∈ ps) → (∀ u ∈ S, goesB F S u = true) → ∀ u ∈ S, u ∈ statesOf F ps) := by
  intro n
  induction n with
  | zero =>
    intro out hl hp hS
    have h0 : out = [] := List.eq_nil_of_length_eq_zero (by omega)
    have he := (PairSt.step hp).2.1 (by rw [h0]; rfl)
    rw [← he]
    exact ⟨fun u hu => (by rw [h0] at hu; cases hu), hS⟩
  | succ n ih =>
    intro out hl hp hS
    obtain ⟨h1, h2, h3⟩ := PairSt.step hp
    by_cases he : (out.filter (goesB F out)).length = out.length
    · have e := h2 he
      rw [← e]
      refine ⟨fun u hu => ?_, hS⟩
      rw [List.length_filter_eq_length_iff] at he
      exact he u hu
    · refine ih _ (by omega) (h3 he) fun S hs1 hs2 u hu => ?_
      rw [List.mem_filter]
      exact ⟨hS S hs1 hs2 u hu, goes_mono (hS S hs1 hs2) (hs2 u hu)⟩
theorem states_both (F ps : List (List UInt8)) : (∀ u ∈ statesOf F ps, goesB F (statesOf F ps) u = true) ∧ (∀ S : List (List UInt8), (∀ u ∈ S, u ∈ ps) → (∀ u ∈ S, goesB F S u = true) → ∀ u ∈ S, u ∈ statesOf F ps) :=
  states_fix F ps ps.length ps (Nat.le_refl _) (PairSt.start F ps) fun _ h _ => h

/-- what is known of the states of a shift -/
theorem states_goes {K : Nat} {F : List (List UInt8)} {u : List UInt8} (h : u ∈ statesL K F) : (∃ v ∈ statesL K F, adjL F u v = true) ∧ (∃ v ∈ statesL K F, adjL F v u = true) := by
  have := (states_both F (avoidsN K F 2)).1 u h
  unfold goesB at this
  rw [Bool.and_eq_true, List.any_eq_true, List.any_eq_true] at this
  exact this
theorem states_max {K : Nat} {F S : List (List UInt8)} (h1 : ∀ u ∈ S, u ∈ wordsL K 2 ∧ avoidL F u = true) (h2 : ∀ u ∈ S, (∃ v ∈ S, adjL F u v = true) ∧ (∃ v ∈ S, adjL F v u = true)) : ∀ u ∈ S, u ∈ statesL K F := by
  refine (states_both F (avoidsN K F 2)).2 S (fun u hu => ?_) fun u hu => ?_
  · unfold avoidsN
    rw [List.mem_filter]
    exact h1 u hu
  · unfold goesB
    rw [Bool.and_eq_true, List.any_eq_true, List.any_eq_true]
    exact h2 u hu

/-! ### words of two letters and more -/
theorem two_of {u : List UInt8} (h : u.length = 2) : ∃ a b, u = [a, b] := by
  match u, h with
  | [a, b], _ => exact ⟨a, b, rfl⟩
theorem adj_iff (F : List (List UInt8)) (a b c d : UInt8) : adjL F [a, b] [c, d] = true ↔ b = c ∧ avoidL F [a, b, d] = true := by
  unfold adjL
  simp [Bool.and_eq_true]
theorem has_two {F st : List (List UInt8)} {u : List UInt8} (hst : ∀ u ∈ st, avoidL F u = true) (hl : u.length = 2) : hasL F st u = true ↔ u ∈ st := by
  unfold hasL
  rw [if_neg (by omega), List.take_of_length_le (by omega), hl, Nat.sub_self, List.drop_zero, Bool.and_eq_true, Bool.and_eq_true, List.any_eq_true]
  constructor
  · rintro ⟨_, ⟨v, hv, he⟩, _⟩
    have : v = u := by simpa using he
    rw [← this]; exact hv
  · intro hu
    exact ⟨hst u hu, ⟨u, hu, by simp⟩, ⟨u, hu, by simp⟩⟩
theorem has_more {F st : List (List UInt8)} {w : List UInt8} (hl : 2 ≤ w.length) : hasL F st w = true ↔ avoidL F w = true ∧ w.take 2 ∈ st ∧ w.drop (w.length - 2) ∈ st := by
  unfold hasL
  rw [if_neg (by omega), Bool.and_eq_true, Bool.and_eq_true, List.any_eq_true, List.any_eq_true]
  constructor
  · rintro ⟨h1, ⟨v, hv, he⟩, ⟨x, hx, he2⟩⟩
    have e1 : v = w.take 2 := by simpa using he
    have e2 : x = w.drop (w.length - 2) := by simpa using he2
    rw [← e1, ← e2]
    exact ⟨h1, hv, hx⟩
  · rintro ⟨h1, h2, h3⟩
    exact ⟨h1, ⟨_, h2, by simp⟩, ⟨_, h3, by simp⟩⟩
theorem avoid_iff (F : List (List UInt8)) (w : List UInt8) : avoidL F w = true ↔ ∀ f ∈ F, ¬ f <:+: w := by
  unfold avoidL
  rw [List.all_eq_true]
  constructor
  · intro h f hf hi
    have := h f hf
    rw [(occ_iff w f).2 hi] at this
    cases this
  · intro h f hf
    cases ho : occ w f with
    | false => rfl
    | true => exact absurd ((occ_iff w f).1 ho) (h f hf)
theorem avoid_infix {F : List (List UInt8)} {u w : List UInt8} (h : u <:+: w) (hw : avoidL F w = true) : avoidL F u = true := by
  rw [avoid_iff] at *
  exact fun f hf hi => hw f hf (hi.trans h)
/-- an infix of at most three letters of a :: w is one of w or of its first three letters -/
theorem infix_cons {a : UInt8} {w f : List UInt8} (hf : f.length ≤ 3) (h : f <:+: a :: w) : f <:+: w ∨ f <:+: (a :: w).take 3 := by
  rw [List.infix_cons_iff] at h
  rcases h with h | h
  · right
    obtain ⟨t, ht⟩ := h
    have : f = (a :: w).take f.length := by rw [← ht, List.take_left]
    rw [this]
    refine List.IsPrefix.isInfix ?_
    exact List.take_prefix_take_left hf
  · exact .inl h

/-- a word whose neighbouring pairs are in a list and follow each other -/
def pathB (F st : List (List UInt8)) : List UInt8 → Bool
  | [] => true
  | [_] => true
  | [a, b] => st.contains [a, b]
  | a :: b :: c :: r => st.contains [a, b] && (avoidL F [a, b, c] && pathB F st (b :: c :: r))
theorem path_take {F st : List (List UInt8)} : ∀ {w : List UInt8}, 2 ≤ w.length → pathB F st w = true → w.take 2 ∈ st
  | [a, b], _, h => by simpa [pathB] using h
  | a :: b :: c :: r, _, h => by
    simp only [pathB, Bool.and_eq_true] at h
    simpa using h.1
theorem path_drop {F st : List (List UInt8)} : ∀ {w : List UInt8}, 2 ≤ w.length → pathB F st w = true → w.drop (w.length - 2) ∈ st
  | [a, b], _, h => by simpa [pathB] using h
  | a :: b :: c :: r, _, h => by
    simp only [pathB, Bool.and_eq_true] at h
    have := path_drop (w := b :: c :: r) (by simp) h.2.2
    have e : (a :: b :: c :: r).length - 2 = ((b :: c :: r).length - 2) + 1 := by simp
    rw [e, List.drop_succ_cons]
    exact this
theorem path_avoid {F st : List (List UInt8)} (hst : ∀ u ∈ st, avoidL F u = true) (hF : ∀ f ∈ F, f.length ≤ 3) : ∀ {w : List UInt8}, 2 ≤ w.length → pathB F st w = true → avoidL F w = true
  | [a, b], _, h => hst _ (by simpa [pathB] using h)
  | a :: b :: c :: r, _, h => by
    simp only [pathB, Bool.and_eq_true] at h
    have ih := path_avoid hst hF (w := b :: c :: r) (by simp) h.2.2
    rw [avoid_iff] at ih ⊢
    intro f hf hi
    rcases infix_cons (hF f hf) hi with h1 | h1
    · exact ih f hf h1
    · have := (avoid_iff F _).1 h.2.1 f hf
      exact this (by simpa using h1)
/-- every pair of an avoiding word between two states is one -/
theorem avoid_path {K : Nat} {F : List (List UInt8)} {w : List UInt8} (ha : avoidL F w = true) (hl : 2 ≤ w.length) (h1 : w.take 2 ∈ statesL K F) (h2 : w.drop (w.length - 2) ∈ statesL K F) (hlet : ∀ a b, [a, b] <:+: w → [a, b] ∈ wordsL K 2) : pathB F (statesL K F) w = true := by
  -- all pairs of w, with the states, go on in both directions
  have key : ∀ i, i + 2 ≤ w.length → (w.drop i).take 2 ∈ statesL K F := by
    have hS := states_max (K := K) (F := F) (S := statesL K F ++ (List.range (w.length - 1)).map fun i => (w.drop i).take 2) (fun u hu => by
      rcases List.mem_append.1 hu with hu | hu
      · exact ⟨statesL_word hu, statesL_avoid hu⟩
      · obtain ⟨i, hi, rfl⟩ := List.mem_map.1 hu
        have hi := List.mem_range.1 hi
        have hinf : (w.drop i).take 2 <:+: w := (List.take_prefix _ _).isInfix.trans (List.drop_suffix _ _).isInfix
        obtain ⟨a, b, e⟩ := two_of (u := (w.drop i).take 2) (by rw [List.length_take, List.length_drop]; omega)
        refine ⟨?_, avoid_infix hinf ha⟩
        rw [e] at hinf ⊢
        exact hlet a b hinf) (fun u hu => by
      have inS : ∀ i, i + 2 ≤ w.length → (w.drop i).take 2 ∈ statesL K F ++ (List.range (w.length - 1)).map fun i => (w.drop i).take 2 := fun i hi =>
        List.mem_append.2 (.inr (List.mem_map.2 ⟨i, List.mem_range.2 (by omega), rfl⟩))
      have next : ∀ i, i + 3 ≤ w.length → adjL F ((w.drop i).take 2) ((w.drop (i + 1)).take 2) = true := by
        intro i hi
        have e : w.drop i = w[i]'(by omega) :: w[i + 1]'(by omega) :: w[i + 2]'(by omega) :: w.drop (i + 3) := by
          rw [List.drop_eq_getElem_cons (show i < w.length by omega), List.drop_eq_getElem_cons (show i + 1 < w.length by omega), List.drop_eq_getElem_cons (show i + 1 + 1 < w.length by omega)]
        have e2 : w.drop (i + 1) = w[i + 1]'(by omega) :: w[i + 2]'(by omega) :: w.drop (i + 3) := by
          rw [List.drop_eq_getElem_cons (show i + 1 < w.length by omega), List.drop_eq_getElem_cons (show i + 1 + 1 < w.length by omega)]
        have h3 : avoidL F [w[i]'(by omega), w[i + 1]'(by omega), w[i + 2]'(by omega)] = true := by
          refine avoid_infix ?_ ha
          have : [w[i]'(by omega), w[i + 1]'(by omega), w[i + 2]'(by omega)] = (w.drop i).take 3 := by rw [e]; rfl
          rw [this]
          exact (List.take_prefix _ _).isInfix.trans (List.drop_suffix _ _).isInfix
        rw [e, e2]
        exact (adj_iff F _ _ _ _).2 ⟨rfl, h3⟩
      rcases List.mem_append.1 hu with hu | hu
      · obtain ⟨⟨v, hv, hav⟩, ⟨x, hx, hax⟩⟩ := states_goes hu
        exact ⟨⟨v, List.mem_append.2 (.inl hv), hav⟩, ⟨x, List.mem_append.2 (.inl hx), hax⟩⟩
      · obtain ⟨i, hi, rfl⟩ := List.mem_map.1 hu
        have hi := List.mem_range.1 hi
        constructor
        · by_cases hl2 : i + 3 ≤ w.length
          · exact ⟨_, inS (i + 1) (by omega), next i hl2⟩
          · have e : (w.drop i).take 2 = w.drop (w.length - 2) := by
              rw [List.take_of_length_le (by rw [List.length_drop]; omega)]
              congr 1
              omega
            obtain ⟨⟨v, hv, hav⟩, -⟩ := states_goes h2
            exact ⟨v, List.mem_append.2 (.inl hv), by rw [e]; exact hav⟩
        · by_cases h0 : i = 0
          · obtain ⟨-, ⟨v, hv, hav⟩⟩ := states_goes h1
            exact ⟨v, List.mem_append.2 (.inl hv), by rw [h0, List.drop_zero]; exact hav⟩
          · obtain ⟨j, rfl⟩ : ∃ j, i = j + 1 := ⟨i - 1, by omega⟩
            exact ⟨_, inS j (by omega), next j (by omega)⟩)
    intro i hi
    exact hS _ (List.mem_append.2 (.inr (List.mem_map.2 ⟨i, List.mem_range.2 (by omega), rfl⟩)))
  -- so the word is a path
  have go : ∀ (n i : Nat), i + n = w.length → pathB F (statesL K F) (w.drop i) = true := by
    intro n
    induction n with
    | zero => intro i hi; rw [List.drop_of_length_le (by omega)]; rfl
    | succ n ih =>
      intro i hi
      have hd := ih (i + 1) (by omega)
      rw [List.drop_eq_getElem_cons (show i < w.length by omega)]
      cases hr : w.drop (i + 1) with
      | nil => rfl
      | cons b r =>
        have hk := key i (by
          have := congrArg List.length hr
          rw [List.length_drop] at this
          simp at this
          omega)
        rw [List.drop_eq_getElem_cons (show i < w.length by omega), hr] at hk
        rw [hr] at hd
        cases r with
        | nil =>
          show (statesL K F).contains [_, b] = true
          simpa using hk
        | cons c r =>
          simp only [pathB, Bool.and_eq_true]
          refine ⟨by simpa using hk, avoid_infix ?_ ha, hd⟩
          have e : [w[i]'(by omega), b, c] = (w.drop i).take 3 := by
            rw [List.drop_eq_getElem_cons (show i < w.length by omega), hr]; rfl
          rw [e]
          exact (List.take_prefix _ _).isInfix.trans (List.drop_suffix _ _).isInfix
  have := go w.length 0 (by omega)
  rwa [List.drop_zero] at this
end Go.Cm

/- Codes on words. No program in sight. -/
namespace Go.Cm

/-- what a word is -/
def wordOk (k : Int) (s : ByteArray) : Bool := (decide (1 ≤ k) && decide (k ≤ 3)) && (decide (s.size ≤ 16) && areLet k s.data.toList)

/-- the index of a word -/
def idxL (k : Nat) (u : List UInt8) : Nat := u.foldl (fun n c => n * k + (c.toNat - 97)) 0
theorem idxL_snoc (k : Nat) (u : List UInt8) (c : UInt8) : idxL k (u ++ [c]) = idxL k u * k + (c.toNat - 97) := by simp [idxL]
theorem areLet_append (k : Int) (u v : List UInt8) : areLet k (u ++ v) = (areLet k u && areLet k v) := by simp [areLet]
theorem snoc_induction {p : List UInt8 → Prop} (h0 : p []) (hs : ∀ u c, p u → p (u ++ [c])) (u : List UInt8) : p u := by
  have : ∀ n (u : List UInt8), u.length = n → p u := by
    intro n
    induction n with
    | zero => intro u hu; have : u = [] := List.eq_nil_of_length_eq_zero hu; rw [this]; exact h0
    | succ n ih =>
      intro u hu
      have hne : u ≠ [] := by intro h; rw [h] at hu; simp at hu
      rw [← List.dropLast_concat_getLast hne]
      exact hs _ _ (ih _ (by rw [List.length_dropLast]; omega))
  exact this u.length u rfl
theorem idxL_lt (k : Nat) (u : List UInt8) : areLet k u = true → idxL k u < k ^ u.length := by
  refine snoc_induction (p := fun u => areLet k u = true → idxL k u < k ^ u.length) ?_ ?_ u
  · intro _; simp [idxL]
  · intro u c ih h
    rw [areLet_append] at h
    simp only [Bool.and_eq_true] at h
    have h1 := ih h.1
    have h2 : c.toNat - 97 < k := by
      have := h.2
      simp [areLet, isLet] at this
      omega
    rw [idxL_snoc, List.length_append, List.length_singleton, Nat.pow_succ]
    have h3 : (idxL k u + 1) * k ≤ k ^ u.length * k := Nat.mul_le_mul_right k h1
    rw [Nat.succ_mul] at h3
    omega

/-- the part of a word -/
def partL (W i : Nat) (u : List UInt8) : List UInt8 := (u.drop i).take W
theorem extract_part (s : ByteArray) (i W : Nat) : s.extract i (i + W) = mkS (partL W i s.data.toList) := by
  apply ByteArray.ext
  apply Array.ext'
  rw [Lib.extract_data, mkS_data]
  unfold partL
  rw [show i + W - i = W by omega]

end Go.Cm
namespace Go.Cm
theorem areLet_wordL (K : Nat) (hK0 : 0 < K) (hK : K ≤ 3) : ∀ n i, areLet K (wordL K n i) = true
  | 0, _ => rfl
  | n + 1, i => by
    have hm : i % K < K := Nat.mod_lt _ hK0
    rw [wordL, areLet_append, areLet_wordL K hK0 hK n]
    have h2 : ((letN (i % K)).toNat : Int) = ((97 + i % K : Nat) : Int) := by unfold letN; exact ofNat_toNat (by omega)
    simp [areLet, isLet, h2]
    omega
theorem mem_wordsL {K n : Nat} {u : List UInt8} (h : u ∈ wordsL K n) (hK0 : 0 < K) (hK : K ≤ 3) : u.length = n ∧ areLet K u = true := by
  simp only [wordsL, List.mem_map] at h
  obtain ⟨i, _, rfl⟩ := h
  exact ⟨wordL_length K n i, areLet_wordL K hK0 hK n i⟩
end Go.Cm

/- Counts of sources by their last letters. No program in sight. -/
namespace Go.Cm

/-- numbers as cells -/
def ncells (l : List Nat) : List Value := l.map fun x : Nat => Value.int .i64 (x : Int)
theorem ncells_length (l : List Nat) : (ncells l).length = l.length := by simp [ncells]
theorem ncells_at (l : List Nat) (j : Nat) (h : j < l.length) : (ncells l)[j]'(by rw [ncells_length]; exact h) = .int .i64 ((l.getD j 0 : Nat) : Int) := by
  simp [ncells, List.getD_eq_getElem?_getD, List.getElem?_eq_getElem h]
/-- all entries are at most so great -/
def Bnd (M : Nat) (l : List Nat) : Prop := ∀ j, l.getD j 0 ≤ M
theorem Bnd.mono {M M' : Nat} {l : List Nat} (h : Bnd M l) (hm : M ≤ M') : Bnd M' l := fun j => Nat.le_trans (h j) hm
theorem Bnd.set {M : Nat} {l : List Nat} (h : Bnd M l) (i x : Nat) (hx : x ≤ M) : Bnd M (l.set i x) := by
  intro j
  rw [List.getD_eq_getElem?_getD, List.getElem?_set]
  have := h j
  rw [List.getD_eq_getElem?_getD] at this
  split
  · split
    · simpa using hx
    · simp
  · exact this
theorem Bnd.replicate (n x : Nat) : Bnd x (List.replicate n x) := by
  intro j
  rw [List.getD_eq_getElem?_getD, List.getElem?_replicate]
  split <;> simp
/-- the sum of the first entries -/
def sumTo (l : List Nat) (k : Nat) : Nat := (l.take k).sum
theorem sumTo_succ (l : List Nat) (k : Nat) (h : k < l.length) : sumTo l (k + 1) = sumTo l k + l.getD k 0 := by
  unfold sumTo
  rw [List.take_succ_eq_append_getElem h, List.sum_append, List.getD_eq_getElem?_getD, List.getElem?_eq_getElem h]
  simp
end Go.Cm

/- Words and their numbers of sources, all together. No program in sight. -/
namespace Go.Cm

theorem letN_inj {x y : Nat} (hx : x < 3) (hy : y < 3) (h : letN x = letN y) : x = y := by
  match x, y, hx, hy with
  | 0, 0, _, _ => rfl
  | 1, 1, _, _ => rfl
  | 2, 2, _, _ => rfl
  | 0, 1, _, _ => exact absurd h (by decide)
  | 0, 2, _, _ => exact absurd h (by decide)
  | 1, 0, _, _ => exact absurd h (by decide)
  | 1, 2, _, _ => exact absurd h (by decide)
  | 2, 0, _, _ => exact absurd h (by decide)
  | 2, 1, _, _ => exact absurd h (by decide)
end Go.Cm

/- A code that is onto gives every word the same number of sources: the counting. No program in sight. -/
namespace Go.Cm

theorem wordsL_nodup {K : Nat} (hK0 : 0 < K) (hK : K ≤ 3) : ∀ n, (wordsL K n).Nodup
  | 0 => by simp [wordsL_zero]
  | n + 1 => by
    rw [wordsL_succ K n hK0]
    have ih := wordsL_nodup hK0 hK n
    rw [List.Nodup, List.pairwise_flatMap]
    refine ⟨fun u _ => ?_, ih.imp fun {u v} hne x hx y hy e => ?_⟩
    · rw [List.pairwise_map]
      refine List.Pairwise.imp_of_mem (fun {x y} hx hy hne e => ?_) List.nodup_range
      have e' := (List.append_inj e rfl).2
      exact hne (letN_inj (by have := List.mem_range.1 hx; omega) (by have := List.mem_range.1 hy; omega) (List.cons.inj e').1)
    · obtain ⟨a, _, rfl⟩ := List.mem_map.1 hx
      obtain ⟨b, _, rfl⟩ := List.mem_map.1 hy
      exact hne (List.append_inj_left' e rfl)

end Go.Cm

