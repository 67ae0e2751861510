/- Contracts: SameOnRings of both. -/
import Derived.Test.YtfkdpeifnfpldaaRingB
import Derived.Test.YtfkdpeifnfpldaaBalA
namespace Go.Proofs.Ytfkdpeifnfpldaa
open Go.RowKit Go.Cm

/-- two codes give the same to a word that goes on with itself -/
def sameW (K n n' m : Nat) (o o' : ByteArray) (i : Nat) : Bool := decide (ringL K n o ((wordsL K m).getD i []) = ringL K n' o' ((wordsL K m).getD i []))
def sameR (K n n' m : Nat) (o o' : ByteArray) : Bool := (List.range (K ^ m)).all (sameW K n n' m o o')
/-- the first i words -/
def AllTo (p : Nat → Bool) (i : Nat) : Prop := ∀ j, j < i → p j = true
theorem AllTo.zero (p : Nat → Bool) : AllTo p 0 := fun j h => absurd h (Nat.not_lt_zero j)
theorem AllTo.succ {p : Nat → Bool} {i : Nat} (h : AllTo p i) (he : p i = true) : AllTo p (i + 1) := fun j hj => by
  by_cases e : j = i
  · rw [e]; exact he
  · exact h j (by omega)
theorem AllTo.all {p : Nat → Bool} {i : Nat} (h : AllTo p i) : (List.range i).all p = true := by
  rw [List.all_eq_true]
  intro j hj
  exact h j (by simpa using hj)
theorem AllTo.bad {p : Nat → Bool} {i n : Nat} (hi : i < n) (h : p i = false) : (List.range n).all p = false := by
  rw [List.all_eq_false]
  exact ⟨i, by simpa using hi, by simpa using h⟩

def sameOk (L W L' W' m : Int) (o o' : ByteArray) : Bool := codeOk L W o && (codeOk L' W' o' && (decide (L = L') && (decide (1 ≤ m) && decide (m ≤ 6))))

theorem pow_small6 {K m : Nat} (hK : K ≤ 3) (hm : m ≤ 6) : K ^ m ≤ 729 := by
  have h1 : K ^ m ≤ 3 ^ m := Nat.pow_le_pow_left hK m
  have h2 : 3 ^ m ≤ 3 ^ 6 := Nat.pow_le_pow_right (by omega) hm
  have h3 : (3 : Nat) ^ 6 = 729 := by decide
  omega

set_option maxHeartbeats 4000000 in
theorem impl_SameOnRings_no (L W L' W' m : Int) (o o' : ByteArray) (w : World) (ho : o.size ≤ maxLen) (ho' : o'.size ≤ maxLen) (h : sameOk L W L' W' m o o' = false) :
    Calls Try.prog 38 #[.agg #[.int .i64 L, .int .i64 W, .string o], .agg #[.int .i64 L', .int .i64 W', .string o'], .int .i64 m] w fun e w' => e = .returned (.bool false) ∧ Ext w w' := by
  cases hc : codeOk L W o with
  | false =>
    clear h
    go_enter Try.func38, Try.ntmps38
    go_wp2_with fail
    with_reducible refine (impl_IsCode_any _ _ _ _ ho).mono ?_
    rintro e w1 ⟨rfl, hx⟩
    rw [hc]
    replace hx : Ext w w1 := Ext.trans (by (repeat (first | exact (Ext.refl w) | exact Ext.refl _ | exact Ext.alloc _ _ | refine Ext.alloced ?_ _ | (refine Ext.stored ?_ ?_; rotate_left; (· (first | (show _ ≤ _; omega) | (simp; done) | (simp; omega))))))) hx
    go_wp2
    go_ret
    exact ⟨rfl, hx⟩
  | true =>
    cases hc' : codeOk L' W' o' with
    | false =>
      have HC := Lib.hid (And.intro hc hc')
      clear h hc hc'
      go_enter Try.func38, Try.ntmps38
      go_wp2_with fail
      with_reducible refine (impl_IsCode_any _ _ _ _ ho).mono ?_
      rintro e w1 ⟨rfl, hx⟩
      rw [HC.out.1]
      have bo := (show Blk _ (w.heap.size + 1) #[.int .i64 L', .int .i64 W', .string o'] by (repeat (first | (refine Blk.mk' ?_; (simp; done)) | apply Blk.old))).ext hx
      replace hx : Ext w w1 := Ext.trans (by (repeat (first | exact (Ext.refl w) | exact Ext.refl _ | exact Ext.alloc _ _ | refine Ext.alloced ?_ _ | (refine Ext.stored ?_ ?_; rotate_left; (· (first | (show _ ≤ _; omega) | (simp; done) | (simp; omega))))))) hx
      obtain ⟨c0, c1, c2, -, -, -⟩ := bo.c3
      go_wp2_with fail
      with_reducible refine (impl_IsCode_any _ _ _ _ ho').mono ?_
      rintro e w2 ⟨rfl, hx2⟩
      rw [HC.out.2]
      replace hx := hx.trans hx2
      go_wp2
      go_ret
      exact ⟨rfl, hx⟩
    | true =>
      have HC := Lib.hid (And.intro hc hc')
      have hm : ¬ (L = L' ∧ 1 ≤ m ∧ m ≤ 6) := by
        intro ⟨a, b, c⟩
        have e : sameOk L W L' W' m o o' = true := by unfold sameOk; rw [hc, hc', decide_eq_true a, decide_eq_true b, decide_eq_true c]; rfl
        rw [e] at h
        cases h
      clear h hc hc'
      by_cases hLL : L = L'
      · subst hLL
        by_cases h1 : 1 ≤ m
        · have hd1 : decide (m < 1) = false := by simp; omega
          have hd2 : decide (6 < m) = true := by simp; omega
          clear hm
          go_enter Try.func38, Try.ntmps38
          go_wp2_with fail
          with_reducible refine (impl_IsCode_any _ _ _ _ ho).mono ?_
          rintro e w1 ⟨rfl, hx⟩
          rw [HC.out.1]
          have bo := (show Blk _ w.heap.size #[.int .i64 L, .int .i64 W, .string o] by (repeat (first | (refine Blk.mk' ?_; (simp; done)) | apply Blk.old))).ext hx
          have bo' := (show Blk _ (w.heap.size + 1) #[.int .i64 L, .int .i64 W', .string o'] by (repeat (first | (refine Blk.mk' ?_; (simp; done)) | apply Blk.old))).ext hx
          replace hx : Ext w w1 := Ext.trans (by (repeat (first | exact (Ext.refl w) | exact Ext.refl _ | exact Ext.alloc _ _ | refine Ext.alloced ?_ _ | (refine Ext.stored ?_ ?_; rotate_left; (· (first | (show _ ≤ _; omega) | (simp; done) | (simp; omega))))))) hx
          obtain ⟨c0, c1, c2, -, -, -⟩ := bo'.c3
          go_wp2_with fail
          with_reducible refine (impl_IsCode_any _ _ _ _ ho').mono ?_
          rintro e w2 ⟨rfl, hx2⟩
          rw [HC.out.2]
          replace hx := hx.trans hx2
          clear c0 c1 c2
          obtain ⟨c0, c1, c2, -, -, -⟩ := (bo.ext hx2).c3
          obtain ⟨d0, d1, d2, -, -, -⟩ := (bo'.ext hx2).c3
          go_wp2
          go_ret
          exact ⟨rfl, hx⟩
        · have hd1 : decide (m < 1) = true := by simp; omega
          clear hm
          go_enter Try.func38, Try.ntmps38
          go_wp2_with fail
          with_reducible refine (impl_IsCode_any _ _ _ _ ho).mono ?_
          rintro e w1 ⟨rfl, hx⟩
          rw [HC.out.1]
          have bo := (show Blk _ w.heap.size #[.int .i64 L, .int .i64 W, .string o] by (repeat (first | (refine Blk.mk' ?_; (simp; done)) | apply Blk.old))).ext hx
          have bo' := (show Blk _ (w.heap.size + 1) #[.int .i64 L, .int .i64 W', .string o'] by (repeat (first | (refine Blk.mk' ?_; (simp; done)) | apply Blk.old))).ext hx
          replace hx : Ext w w1 := Ext.trans (by (repeat (first | exact (Ext.refl w) | exact Ext.refl _ | exact Ext.alloc _ _ | refine Ext.alloced ?_ _ | (refine Ext.stored ?_ ?_; rotate_left; (· (first | (show _ ≤ _; omega) | (simp; done) | (simp; omega))))))) hx
          obtain ⟨c0, c1, c2, -, -, -⟩ := bo'.c3
          go_wp2_with fail
          with_reducible refine (impl_IsCode_any _ _ _ _ ho').mono ?_
          rintro e w2 ⟨rfl, hx2⟩
          rw [HC.out.2]
          replace hx := hx.trans hx2
          clear c0 c1 c2
          obtain ⟨c0, c1, c2, -, -, -⟩ := (bo.ext hx2).c3
          obtain ⟨d0, d1, d2, -, -, -⟩ := (bo'.ext hx2).c3
          go_wp2
          go_ret
          exact ⟨rfl, hx⟩
      · have hd0 : (L == L') = false := by simpa using hLL
        have hd1 : (L != L') = true := by simpa using hLL
        clear hm
        go_enter Try.func38, Try.ntmps38
        go_wp2_with fail
        with_reducible refine (impl_IsCode_any _ _ _ _ ho).mono ?_
        rintro e w1 ⟨rfl, hx⟩
        rw [HC.out.1]
        have bo := (show Blk _ w.heap.size #[.int .i64 L, .int .i64 W, .string o] by (repeat (first | (refine Blk.mk' ?_; (simp; done)) | apply Blk.old))).ext hx
        have bo' := (show Blk _ (w.heap.size + 1) #[.int .i64 L', .int .i64 W', .string o'] by (repeat (first | (refine Blk.mk' ?_; (simp; done)) | apply Blk.old))).ext hx
        replace hx : Ext w w1 := Ext.trans (by (repeat (first | exact (Ext.refl w) | exact Ext.refl _ | exact Ext.alloc _ _ | refine Ext.alloced ?_ _ | (refine Ext.stored ?_ ?_; rotate_left; (· (first | (show _ ≤ _; omega) | (simp; done) | (simp; omega))))))) hx
        obtain ⟨c0, c1, c2, -, -, -⟩ := bo'.c3
        go_wp2_with fail
        with_reducible refine (impl_IsCode_any _ _ _ _ ho').mono ?_
        rintro e w2 ⟨rfl, hx2⟩
        rw [HC.out.2]
        replace hx := hx.trans hx2
        clear c0 c1 c2
        obtain ⟨c0, c1, c2, -, -, -⟩ := (bo.ext hx2).c3
        obtain ⟨d0, d1, d2, -, -, -⟩ := (bo'.ext hx2).c3
        go_wp2
        go_ret
        exact ⟨rfl, hx⟩

set_option maxHeartbeats 4000000 in
theorem spec_SameOnRings_no (L W L' W' m : Int) (o o' : ByteArray) (w : World) (ho : o.size ≤ maxLen) (ho' : o'.size ≤ maxLen) (h : sameOk L W L' W' m o o' = false) :
    Calls Try.prog 39 #[.agg #[.int .i64 L, .int .i64 W, .string o], .agg #[.int .i64 L', .int .i64 W', .string o'], .int .i64 m] w fun e w' => e = .returned (.bool false) ∧ Ext w w' := by
  cases hc : codeOk L W o with
  | false =>
    clear h
    go_enter Try.func39, Try.ntmps39
    go_wp2_with fail
    with_reducible refine (spec_IsCode_any _ _ _ _ ho).mono ?_
    rintro e w1 ⟨rfl, hx⟩
    rw [hc]
    replace hx : Ext w w1 := Ext.trans (by (repeat (first | exact (Ext.refl w) | exact Ext.refl _ | exact Ext.alloc _ _ | refine Ext.alloced ?_ _ | (refine Ext.stored ?_ ?_; rotate_left; (· (first | (show _ ≤ _; omega) | (simp; done) | (simp; omega))))))) hx
    go_wp2
    go_ret
    exact ⟨rfl, hx⟩
  | true =>
    cases hc' : codeOk L' W' o' with
    | false =>
      have HC := Lib.hid (And.intro hc hc')
      clear h hc hc'
      go_enter Try.func39, Try.ntmps39
      go_wp2_with fail
      with_reducible refine (spec_IsCode_any _ _ _ _ ho).mono ?_
      rintro e w1 ⟨rfl, hx⟩
      rw [HC.out.1]
      have bo := (show Blk _ (w.heap.size + 1) #[.int .i64 L', .int .i64 W', .string o'] by (repeat (first | (refine Blk.mk' ?_; (simp; done)) | apply Blk.old))).ext hx
      replace hx : Ext w w1 := Ext.trans (by (repeat (first | exact (Ext.refl w) | exact Ext.refl _ | exact Ext.alloc _ _ | refine Ext.alloced ?_ _ | (refine Ext.stored ?_ ?_; rotate_left; (· (first | (show _ ≤ _; omega) | (simp; done) | (simp; omega))))))) hx
      obtain ⟨c0, c1, c2, -, -, -⟩ := bo.c3
      go_wp2_with fail
      with_reducible refine (spec_IsCode_any _ _ _ _ ho').mono ?_
      rintro e w2 ⟨rfl, hx2⟩
      rw [HC.out.2]
      replace hx := hx.trans hx2
      go_wp2
      go_ret
      exact ⟨rfl, hx⟩
    | true =>
      have HC := Lib.hid (And.intro hc hc')
      have hm : ¬ (L = L' ∧ 1 ≤ m ∧ m ≤ 6) := by
        intro ⟨a, b, c⟩
        have e : sameOk L W L' W' m o o' = true := by unfold sameOk; rw [hc, hc', decide_eq_true a, decide_eq_true b, decide_eq_true c]; rfl
        rw [e] at h
        cases h
      clear h hc hc'
      by_cases hLL : L = L'
      · subst hLL
        have hm2 : m < 1 ∨ 6 < m := by omega
        have HM := Lib.hid hm2
        clear hm hm2
        go_enter Try.func39, Try.ntmps39
        go_wp2_with fail
        with_reducible refine (spec_IsCode_any _ _ _ _ ho).mono ?_
        rintro e w1 ⟨rfl, hx⟩
        rw [HC.out.1]
        have bo := (show Blk _ w.heap.size #[.int .i64 L, .int .i64 W, .string o] by (repeat (first | (refine Blk.mk' ?_; (simp; done)) | apply Blk.old))).ext hx
        have bo' := (show Blk _ (w.heap.size + 1) #[.int .i64 L, .int .i64 W', .string o'] by (repeat (first | (refine Blk.mk' ?_; (simp; done)) | apply Blk.old))).ext hx
        replace hx : Ext w w1 := Ext.trans (by (repeat (first | exact (Ext.refl w) | exact Ext.refl _ | exact Ext.alloc _ _ | refine Ext.alloced ?_ _ | (refine Ext.stored ?_ ?_; rotate_left; (· (first | (show _ ≤ _; omega) | (simp; done) | (simp; omega))))))) hx
        obtain ⟨c0, c1, c2, -, -, -⟩ := bo'.c3
        go_wp2_with fail
        with_reducible refine (spec_IsCode_any _ _ _ _ ho').mono ?_
        rintro e w2 ⟨rfl, hx2⟩
        rw [HC.out.2]
        replace hx := hx.trans hx2
        clear c0 c1 c2
        obtain ⟨c0, c1, c2, -, -, -⟩ := (bo.ext hx2).c3
        obtain ⟨d0, d1, d2, -, -, -⟩ := (bo'.ext hx2).c3
        go_wp2_with fail
        with_reducible refine (spec_l1In_no m 1 6 _ (by have := HM.out; omega)).mono ?_
        rintro e w3 ⟨rfl, rfl⟩
        go_wp2
        go_ret
        exact ⟨rfl, hx⟩
      · have hd0 : (L == L') = false := by simpa using hLL
        have hd1 : (L != L') = true := by simpa using hLL
        clear hm
        go_enter Try.func39, Try.ntmps39
        go_wp2_with fail
        with_reducible refine (spec_IsCode_any _ _ _ _ ho).mono ?_
        rintro e w1 ⟨rfl, hx⟩
        rw [HC.out.1]
        have bo := (show Blk _ w.heap.size #[.int .i64 L, .int .i64 W, .string o] by (repeat (first | (refine Blk.mk' ?_; (simp; done)) | apply Blk.old))).ext hx
        have bo' := (show Blk _ (w.heap.size + 1) #[.int .i64 L', .int .i64 W', .string o'] by (repeat (first | (refine Blk.mk' ?_; (simp; done)) | apply Blk.old))).ext hx
        replace hx : Ext w w1 := Ext.trans (by (repeat (first | exact (Ext.refl w) | exact Ext.refl _ | exact Ext.alloc _ _ | refine Ext.alloced ?_ _ | (refine Ext.stored ?_ ?_; rotate_left; (· (first | (show _ ≤ _; omega) | (simp; done) | (simp; omega))))))) hx
        obtain ⟨c0, c1, c2, -, -, -⟩ := bo'.c3
        go_wp2_with fail
        with_reducible refine (spec_IsCode_any _ _ _ _ ho').mono ?_
        rintro e w2 ⟨rfl, hx2⟩
        rw [HC.out.2]
        replace hx := hx.trans hx2
        clear c0 c1 c2
        obtain ⟨c0, c1, c2, -, -, -⟩ := (bo.ext hx2).c3
        obtain ⟨d0, d1, d2, -, -, -⟩ := (bo'.ext hx2).c3
        go_wp2
        go_ret
        exact ⟨rfl, hx⟩

end Go.Proofs.Ytfkdpeifnfpldaa
