/- What the law of codes that are undone asks: each function's answer for any code, and what the answers have to do with each other. -/
import Derived.Test.YtfkdpeifnfpldaaUndLinkD
import Derived.Test.YtfkdpeifnfpldaaUndoD
import Derived.Test.YtfkdpeifnfpldaaOneC
import Derived.Test.YtfkdpeifnfpldaaPermB
import Derived.Test.YtfkdpeifnfpldaaSameB
import Derived.Test.YtfkdpeifnfpldaaApplyD
import Derived.Test.YtfkdpeifnfpldaaOrphD
namespace Go.Proofs.Ytfkdpeifnfpldaa
open Go.RowKit Go.Cm

/-- is a code one-to-one -/
def oneAny (L W : Int) (o : ByteArray) : Bool := codeOk L W o && oneB L.toNat W.toNat o
theorem impl_IsOneToOne_all (L W : Int) (o : ByteArray) (w : World) (ho : o.size ≤ maxLen) : Calls Try.prog 34 #[.agg #[.int .i64 L, .int .i64 W, .string o]] w fun e w' => e = .returned (.bool (oneAny L W o)) ∧ Ext w w' := by
  unfold oneAny
  cases h : codeOk L W o with
  | false => exact impl_IsOneToOne_no L W o w ho h
  | true =>
    obtain ⟨K, n, rfl, rfl, hf⟩ := codeFit_of h
    have := impl_IsOneToOne_any K n o w h hf
    simpa using this
theorem spec_IsOneToOne_all (L W : Int) (o : ByteArray) (w : World) (ho : o.size ≤ maxLen) : Calls Try.prog 35 #[.agg #[.int .i64 L, .int .i64 W, .string o]] w fun e w' => e = .returned (.bool (oneAny L W o)) ∧ Ext w w' := by
  unfold oneAny
  cases h : codeOk L W o with
  | false => exact spec_IsOneToOne_no L W o w ho h
  | true =>
    obtain ⟨K, n, rfl, rfl, hf⟩ := codeFit_of h
    have := spec_IsOneToOne_any K n o w h hf
    simpa using this

/-- what gives every word a source: IsOnto says so -/
theorem onto_yes (K m : Nat) (o : ByteArray) (w : World) (h : codeOk K (m + 1 : Nat) o = true) (hf : CodeFit K (m + 1) o) (hall : ∀ w, areLet K w = true → 0 < srcN K (m + 1) o w) :
    Calls Try.prog 18 #[.agg #[.int .i64 K, .int .i64 (m + 1 : Nat), .string o]] w fun e w' => e = .returned (.bool true) ∧ Ext w w' := by
  have h1 := spec_IsOnto_yes K (m + 1) m _ o w h hf rfl rfl
  have h2 : (orphL K (K ^ m) o).isSome = false := by
    cases hc : orphL K (K ^ m) o with
    | none => rfl
    | some u =>
      obtain ⟨h3, h4⟩ := orphL_srcN (by have := hf.k2; omega) hf.k3 hc
      have := hall u h3
      omega
  rw [h2] at h1
  exact h1

theorem one_facts (L W : Int) (o : ByteArray) (h : oneAny L W o = true) (w : World) :
    Calls Try.prog 18 #[.agg #[.int .i64 L, .int .i64 W, .string o]] w fun e w' => e = .returned (.bool true) ∧ Ext w w' := by
  unfold oneAny at h
  simp only [Bool.and_eq_true] at h
  obtain ⟨hc, h1⟩ := h
  obtain ⟨K, n, rfl, rfl, hf⟩ := codeFit_of hc
  obtain ⟨m, rfl⟩ : ∃ m, n = m + 1 := ⟨n - 1, by have := hf.n1; omega⟩
  exact onto_yes K m o w hc hf fun w hw => one_onto hf.k2 hf.k3 hf.size hf.lets (by simpa using h1) w hw

theorem perm_facts (L W : Int) (r : Bool) (o : ByteArray) (ho : o.size ≤ maxLen) : ∃ b : Bool,
    (∀ w, Calls Try.prog 36 #[.agg #[.int .i64 L, .int .i64 W, .string o], .bool r] w fun e w' => e = .returned (.bool b) ∧ Ext w w') ∧
    (∀ w, Calls Try.prog 37 #[.agg #[.int .i64 L, .int .i64 W, .string o], .bool r] w fun e w' => e = .returned (.bool b) ∧ Ext w w') ∧
    (b = true → ∀ w, Calls Try.prog 18 #[.agg #[.int .i64 L, .int .i64 W, .string o]] w fun e w' => e = .returned (.bool true) ∧ Ext w w') := by
  cases h : codeOk L W o with
  | false => exact ⟨_, fun w => impl_IsPermutive_no L W o r w ho h, fun w => spec_IsPermutive_no L W o r w ho h, fun hb => by cases hb⟩
  | true =>
    obtain ⟨K, n, rfl, rfl, hf⟩ := codeFit_of h
    obtain ⟨m, rfl⟩ : ∃ m, n = m + 1 := ⟨n - 1, by have := hf.n1; omega⟩
    refine ⟨_, fun w => impl_IsPermutive_yes K (m + 1) m o r w rfl h hf, fun w => spec_IsPermutive_yes K (m + 1) m o r w rfl h hf, fun hb w => ?_⟩
    exact onto_yes K m o w h hf fun w hw => perm_onto (by have := hf.k2; omega) hf.k3 hf.size hf.lets hb w hw

theorem undoAll_some {K n m : Nat} {o : ByteArray} {a : Nat} {t : List UInt8} (h : undoAll K n m o = some (a, t)) : a < n + m - 1 ∧ undoL K n m a o = some t := by
  unfold undoAll at h
  obtain ⟨x, hx, hr⟩ := firstOf_some h
  cases hu : undoL K n m x o with
  | none => rw [hu] at hr; cases hr
  | some t' =>
    rw [hu] at hr
    have := Option.some.inj hr
    obtain ⟨rfl, rfl⟩ := Prod.mk.inj this
    exact ⟨hx, hu⟩
theorem undoAny_one {L W m : Int} {o : ByteArray} (h : (undoAny L W m o).isSome = true) : oneAny L W o = true := by
  unfold undoAny at h
  by_cases hk : undOk L W m o = true
  · rw [if_pos hk] at h
    obtain ⟨K, n, k, rfl, rfl, rfl, hf, hcd, h1, h4, h27⟩ := undOk_parts hk
    cases hu : undoAll K n k o with
    | none =>
      simp only [Int.toNat_natCast] at h
      rw [hu] at h
      cases h
    | some p =>
      obtain ⟨a, t⟩ := p
      obtain ⟨ha, ht⟩ := undoAll_some hu
      unfold oneAny
      rw [hcd]
      have := undoL_one (by have := hf.k2; omega) hf.k3 hf.n1 h1 ha hf.size hf.lets ht
      simpa using this
  · rw [if_neg hk] at h
    cases h
theorem least_one {L W : Int} {o : ByteArray} (h : 0 < leastU L W o) : oneAny L W o = true := by
  unfold leastU at h
  cases hf : firstOf 4 (leastF L W o) with
  | none => rw [hf] at h; simp at h
  | some k =>
    obtain ⟨i, -, hi⟩ := firstOf_some hf
    unfold leastF at hi
    split at hi
    · rename_i hs
      exact undoAny_one hs
    · cases hi

theorem same_facts (L W L' W' m : Int) (o o' : ByteArray) (ho : o.size ≤ maxLen) (ho' : o'.size ≤ maxLen) : ∃ b : Bool,
    (∀ w, Calls Try.prog 38 #[.agg #[.int .i64 L, .int .i64 W, .string o], .agg #[.int .i64 L', .int .i64 W', .string o'], .int .i64 m] w fun e w' => e = .returned (.bool b) ∧ Ext w w') ∧
    (∀ w, Calls Try.prog 39 #[.agg #[.int .i64 L, .int .i64 W, .string o], .agg #[.int .i64 L', .int .i64 W', .string o'], .int .i64 m] w fun e w' => e = .returned (.bool b) ∧ Ext w w') := by
  cases h : sameOk L W L' W' m o o' with
  | false => exact ⟨_, fun w => impl_SameOnRings_no L W L' W' m o o' w ho ho' h, fun w => spec_SameOnRings_no L W L' W' m o o' w ho ho' h⟩
  | true =>
    unfold sameOk at h
    simp only [Bool.and_eq_true, decide_eq_true_eq] at h
    obtain ⟨h1, h2, h3, h4, h5⟩ := h
    subst h3
    obtain ⟨K, n, rfl, rfl, hf⟩ := codeFit_of h1
    obtain ⟨K', n', hK, rfl, hf'⟩ := codeFit_of h2
    obtain rfl : K = K' := by omega
    obtain ⟨m, rfl⟩ := Int.eq_ofNat_of_zero_le (show 0 ≤ m by omega)
    exact ⟨_, fun w => impl_SameOnRings_yes K n n' m o o' w h1 hf h2 hf' (by omega) (by omega), fun w => spec_SameOnRings_yes K n n' m o o' w h1 hf h2 hf' (by omega) (by omega)⟩

/-- what an undoing code does -/
structure UndoneC (K n k a : Nat) (o s : ByteArray) : Prop where
  k2 : 2 ≤ K
  k3 : K ≤ 3
  n1 : 1 ≤ n
  n4 : n ≤ 4
  k1 : 1 ≤ k
  k4 : k ≤ 4
  small : K = 3 → n ≤ 3 ∧ k ≤ 3
  at' : a < n + k - 1
  apply1 : ∀ u, areLet K u = true → u.length = n + k - 1 → ∀ w, Calls Try.prog 23 #[.agg #[.int .i64 K, .int .i64 n, .string o], .string (mkS u)] w fun e w' => e = .returned (.tuple #[.string (mkS (applyL K n o u)), .bool true]) ∧ Ext w w'
  apply2 : ∀ u, areLet K u = true → u.length = n + k - 1 → ∀ w, Calls Try.prog 23 #[.agg #[.int .i64 K, .int .i64 k, .string s], .string (mkS (applyL K n o u))] w fun e w' => e = .returned (.tuple #[.string (mkS [u.getD a 0]), .bool true]) ∧ Ext w w'

theorem pow3_small {n : Nat} (h : 3 ^ n ≤ 27) : n ≤ 3 := by
  apply Classical.byContradiction
  intro hn
  have : 3 ^ 4 ≤ 3 ^ n := Nat.pow_le_pow_right (by omega) (by omega)
  omega

theorem undo_facts (L W m : Int) (o : ByteArray) (ho : o.size ≤ maxLen) : ∃ (x y : Int) (s : ByteArray) (a : Int) (b : Bool),
    (∀ w, Calls Try.prog 26 #[.agg #[.int .i64 L, .int .i64 W, .string o], .int .i64 m] w fun e w' => e = .returned (.tuple #[.agg #[.int .i64 x, .int .i64 y, .string s], .int .i64 a, .bool b]) ∧ Ext w w') ∧
    (∀ w, Calls Try.prog 27 #[.agg #[.int .i64 L, .int .i64 W, .string o], .int .i64 m] w fun e w' => e = .returned (.tuple #[.agg #[.int .i64 x, .int .i64 y, .string s], .int .i64 a, .bool b]) ∧ Ext w w') ∧
    (b = true → oneAny L W o = true ∧ ∃ K n k c : Nat, L = K ∧ W = n ∧ m = k ∧ x = K ∧ y = k ∧ a = c ∧ UndoneC K n k c o s) := by
  have h1 := fun w => impl_UndoingCode_any L W m o w ho
  have h2 := fun w => spec_UndoingCode_any L W m o w ho
  cases hr : undoAny L W m o with
  | none =>
    rw [hr] at h1 h2
    exact ⟨_, _, _, _, _, h1, h2, fun hb => by cases hb⟩
  | some p =>
    obtain ⟨a, t⟩ := p
    rw [hr] at h1 h2
    refine ⟨_, _, _, _, _, h1, h2, fun _ => ⟨undoAny_one (by rw [hr]; rfl), ?_⟩⟩
    unfold undoAny at hr
    by_cases hk : undOk L W m o = true
    · rw [if_pos hk] at hr
      obtain ⟨K, n, k, rfl, rfl, rfl, hf, hcd, hk1, hk4, h27⟩ := undOk_parts hk
      simp only [Int.toNat_natCast] at hr
      obtain ⟨ha, ht⟩ := undoAll_some hr
      have hk2 := hf.k2
      have hk3 := hf.k3
      have hn4 := hf.n4
      have hn1 := hf.n1
      have hle := hf.le
      obtain ⟨t1, t2, t3⟩ := undoL_good (by omega) hk3 hf.n1 hk1 ha hf.size hf.lets ht
      refine ⟨K, n, k, a, rfl, rfl, rfl, rfl, rfl, rfl, ⟨hk2, hk3, hn1, hn4, hk1, hk4, fun h3 => ?_, ha, fun u hu hl w => ?_, fun u hu hl w => ?_⟩⟩
      · subst h3
        exact ⟨pow3_small hle, pow3_small h27⟩
      · have hw : wordOk K (mkS u) = true := by
          unfold wordOk
          rw [mkS_size, mkS_data, hu]
          simp
          omega
        have := spec_ApplyCode_yes K n o (mkS u) w hcd hf hw
        rwa [mkS_data] at this
      · have hal := areLet_apply hf.size hf.lets hu
        have hll : (applyL K n o u).length = k := by rw [applyL_length]; omega
        have hw : wordOk K (mkS (applyL K n o u)) = true := by
          unfold wordOk
          rw [mkS_size, mkS_data, hal]
          simp
          omega
        have hc2 : codeOk K k (mkS t) = true := by
          unfold codeOk
          have e : (K : Int) ^ k = ((K ^ k : Nat) : Int) := by simp
          have h27' : (K : Int) ^ k ≤ 27 := by omega
          rw [mkS_size, mkS_data, t2, pw_nat, t1]
          simp
          omega
        have hf2 : CodeFit K k (mkS t) := ⟨hk2, hk3, hk1, hk4, h27, by rw [mkS_size, t1], by rw [mkS_data]; exact t2⟩
        have := spec_ApplyCode_yes K k (mkS t) (mkS (applyL K n o u)) w hc2 hf2 hw
        rw [mkS_data, applyL_one _ _ hll] at this
        unfold givesL at this
        rw [mkS_data, t3 u hu hl] at this
        exact this
    · rw [if_neg hk] at hr
      cases hr

set_option maxRecDepth 100000 in
set_option maxHeartbeats 2000000 in
theorem spec_WordsOf_code (K q : Nat) (w : World) (hk2 : 2 ≤ K) (hk3 : K ≤ 3) (h2 : K = 2 → q ≤ 9) (h3 : K = 3 → q ≤ 6) :
    Calls Try.prog 40 #[.int .i64 K, .int .i64 q] w fun e w' => ∃ v, e = .returned v ∧ Own w' w.heap.size 9 v (scells (wordsL K q)) ∧ Ext w w' := by
  by_cases hK : K = 2
  · subst hK
    have hq := h2 rfl
    have hin : ∀ w, Calls Try.prog 60 #[.int .i64 2, .int .i64 1, .int .i64 3] w fun e w' => e = .returned (.bool true) ∧ w = w' := fun w => spec_l1In_yes 2 1 3 w (by omega) (by omega)
    have hall : ∀ w, Calls Try.prog 56 #[.int .i64 2, .int .i64 q] w fun e w' => ∃ v, e = .returned v ∧ Own w' w.heap.size 9 v (scells (wordsL 2 q)) ∧ Ext w w' := fun w => spec_l2All_any 2 q w (by omega) (by omega) (by omega)
    have hq9 : ¬ (9 : Int) < (q : Int) := by omega
    have hq16 : ¬ (16 : Int) < (q : Int) := by omega
    go_enter Try.func40, Try.ntmps40
    go_wp2_with fail
    with_reducible refine (hin _).mono ?_
    rintro e w1 ⟨rfl, rfl⟩
    go_wp2_with fail
    with_reducible refine (hall _).mono ?_
    rintro e w2 ⟨v, rfl, hv, hx⟩
    go_wp2
    go_ret
    exact ⟨v, rfl, hv, hx⟩
  · obtain rfl : K = 3 := by omega
    have hq := h3 rfl
    have hin : ∀ w, Calls Try.prog 60 #[.int .i64 3, .int .i64 1, .int .i64 3] w fun e w' => e = .returned (.bool true) ∧ w = w' := fun w => spec_l1In_yes 3 1 3 w (by omega) (by omega)
    have hall : ∀ w, Calls Try.prog 56 #[.int .i64 3, .int .i64 q] w fun e w' => ∃ v, e = .returned v ∧ Own w' w.heap.size 9 v (scells (wordsL 3 q)) ∧ Ext w w' := fun w => spec_l2All_any 3 q w (by omega) (by omega) (by omega)
    have hq9 : ¬ (6 : Int) < (q : Int) := by omega
    have hq16 : ¬ (16 : Int) < (q : Int) := by omega
    go_enter Try.func40, Try.ntmps40
    go_wp2_with fail
    with_reducible refine (hin _).mono ?_
    rintro e w1 ⟨rfl, rfl⟩
    go_wp2_with fail
    with_reducible refine (hall _).mono ?_
    rintro e w2 ⟨v, rfl, hv, hx⟩
    go_wp2
    go_ret
    exact ⟨v, rfl, hv, hx⟩
end Go.Proofs.Ytfkdpeifnfpldaa
