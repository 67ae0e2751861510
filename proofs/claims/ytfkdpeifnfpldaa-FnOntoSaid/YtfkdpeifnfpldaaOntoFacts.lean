/- What the law of codes that are onto asks: each function's answer for any code, and what the answers have to do with each other. -/
import Derived.Test.YtfkdpeifnfpldaaPkM
import Derived.Test.YtfkdpeifnfpldaaOrphD
import Derived.Test.YtfkdpeifnfpldaaSrcC
import Derived.Test.YtfkdpeifnfpldaaFstC
import Derived.Test.YtfkdpeifnfpldaaBalA
import Derived.Test.YtfkdpeifnfpldaaTwinC
import Derived.Test.YtfkdpeifnfpldaaApplyD
namespace Go.Proofs.Ytfkdpeifnfpldaa
open Go.RowKit Go.Cm

theorem countOf_srcN {K n : Nat} (hn : 1 ≤ n) (hK0 : 0 < K) (hK : K ≤ 3) (o s : ByteArray) : countOf K n o s = srcN K n o s.data.toList := by
  obtain ⟨m, rfl⟩ : ∃ m, n = m + 1 := ⟨n - 1, by omega⟩
  unfold countOf
  rw [Nat.add_sub_cancel, countC_sum hK0 hK]

theorem fit_pow {K m : Nat} {o : ByteArray} (hf : CodeFit K (m + 1) o) : K ^ m ≤ 9 := by
  have h1 := hf.k2
  have h2 := hf.k3
  have h4 := hf.n4
  have hle := hf.le
  rw [Nat.pow_succ] at hle
  by_cases hK : K = 2
  · subst hK
    have : 2 ^ m ≤ 2 ^ 3 := Nat.pow_le_pow_right (by omega) (by omega)
    omega
  · have : K = 3 := by omega
    subst this
    omega

/-- is a code onto -/
def ontoB (L W : Int) (o : ByteArray) : Bool := codeOk L W o && !(orphL L.toNat (L.toNat ^ (W.toNat - 1)) o).isSome
theorem impl_IsOnto_all (L W : Int) (o : ByteArray) (w : World) (ho : o.size ≤ maxLen) : Calls Try.prog 7 #[.agg #[.int .i64 L, .int .i64 W, .string o]] w fun e w' => e = .returned (.bool (ontoB L W o)) ∧ Ext w w' := by
  unfold ontoB
  cases h : codeOk L W o with
  | false => exact impl_IsOnto_no L W o w ho h
  | true =>
    obtain ⟨K, n, rfl, rfl, hf⟩ := codeFit_of h
    obtain ⟨m, hm⟩ : ∃ m, n = m + 1 := ⟨n - 1, by have := hf.n1; omega⟩
    have := impl_IsOnto_yes K n m _ o w h hf hm rfl
    simpa [hm] using this
theorem spec_IsOnto_all (L W : Int) (o : ByteArray) (w : World) (ho : o.size ≤ maxLen) : Calls Try.prog 18 #[.agg #[.int .i64 L, .int .i64 W, .string o]] w fun e w' => e = .returned (.bool (ontoB L W o)) ∧ Ext w w' := by
  unfold ontoB
  cases h : codeOk L W o with
  | false => exact spec_IsOnto_no L W o w ho h
  | true =>
    obtain ⟨K, n, rfl, rfl, hf⟩ := codeFit_of h
    obtain ⟨m, hm⟩ : ∃ m, n = m + 1 := ⟨n - 1, by have := hf.n1; omega⟩
    have := spec_IsOnto_yes K n m _ o w h hf hm rfl
    simpa [hm] using this

theorem size_max {a : Nat} (h : a ≤ 1048576) : a ≤ maxLen := by unfold maxLen; omega

theorem orphan_facts (L W : Int) (o : ByteArray) (ho : o.size ≤ maxLen) : ∃ (x : ByteArray) (r : Bool),
    (∀ w, Calls Try.prog 8 #[.agg #[.int .i64 L, .int .i64 W, .string o]] w fun e w' => e = .returned (.tuple #[.string x, .bool r]) ∧ Ext w w') ∧
    (∀ w, Calls Try.prog 9 #[.agg #[.int .i64 L, .int .i64 W, .string o]] w fun e w' => e = .returned (.tuple #[.string x, .bool r]) ∧ Ext w w') ∧
    (r = true → ontoB L W o = false ∧ ∀ w, Calls Try.prog 19 #[.agg #[.int .i64 L, .int .i64 W, .string o], .string x] w fun e w' => e = .returned (.int .i64 0) ∧ Ext w w') := by
  cases h : codeOk L W o with
  | false => exact ⟨_, _, fun w => impl_FirstOrphan_no L W o w ho h, fun w => spec_FirstOrphan_no L W o w ho h, fun hr => by cases hr⟩
  | true =>
    obtain ⟨K, n, rfl, rfl, hf⟩ := codeFit_of h
    obtain ⟨m, rfl⟩ : ∃ m, n = m + 1 := ⟨n - 1, by have := hf.n1; omega⟩
    have hk2 := hf.k2
    have hk3 := hf.k3
    refine ⟨_, _, fun w => impl_FirstOrphan_yes K (m + 1) m _ o w h hf rfl rfl, fun w => spec_FirstOrphan_yes K (m + 1) m _ o w h hf rfl rfl, fun hr => ?_⟩
    cases hc : orphL K (K ^ m) o with
    | none => rw [hc] at hr; cases hr
    | some u =>
      rw [hc] at hr
      by_cases hu : u.length ≤ 8
      · have e : cut8 (some u) = some u := by show (if u.length ≤ 8 then some u else none) = some u; rw [if_pos hu]
        rw [e]
        obtain ⟨hl, h0⟩ := orphL_srcN (by omega) hk3 hc
        refine ⟨by unfold ontoB; simp [hc], fun w => ?_⟩
        have hs : soughtOk (K : Nat) ((m + 1 : Nat) : Int) o (mkS u) = true := by
          unfold soughtOk wordOk
          rw [h, mkS_size, mkS_data, hl]
          simp
          omega
        have h1 := impl_CountSources_yes K (m + 1) o (mkS u) w hs hf
        rw [countOf_srcN (by omega) (by omega) hk3, mkS_data, h0] at h1
        exact h1
      · have e : cut8 (some u) = none := by show (if u.length ≤ 8 then some u else none) = none; rw [if_neg hu]
        rw [e] at hr
        cases hr

theorem source_facts (L W : Int) (o s : ByteArray) (ho : o.size ≤ maxLen) (hs : s.size ≤ maxLen) : ∃ (x : ByteArray) (r : Bool) (n : Int),
    (∀ w, Calls Try.prog 12 #[.agg #[.int .i64 L, .int .i64 W, .string o], .string s] w fun e w' => e = .returned (.tuple #[.string x, .bool r]) ∧ Ext w w') ∧
    (∀ w, Calls Try.prog 13 #[.agg #[.int .i64 L, .int .i64 W, .string o], .string s] w fun e w' => e = .returned (.tuple #[.string x, .bool r]) ∧ Ext w w') ∧
    (∀ w, Calls Try.prog 19 #[.agg #[.int .i64 L, .int .i64 W, .string o], .string s] w fun e w' => e = .returned (.int .i64 n) ∧ Ext w w') ∧
    (∀ w, Calls Try.prog 20 #[.agg #[.int .i64 L, .int .i64 W, .string o], .string s] w fun e w' => e = .returned (.int .i64 n) ∧ Ext w w') ∧
    r = decide (0 < n) ∧
    (r = true → ∀ w, Calls Try.prog 23 #[.agg #[.int .i64 L, .int .i64 W, .string o], .string x] w fun e w' => e = .returned (.tuple #[.string s, .bool true]) ∧ Ext w w') := by
  cases h : soughtOk L W o s with
  | false => exact ⟨_, _, _, fun w => impl_FirstSource_no L W o s w ho hs h, fun w => spec_FirstSource_no L W o s w ho hs h, fun w => impl_CountSources_no L W o s w ho hs h, fun w => spec_CountSources_no L W o s w ho hs h, rfl, fun hr => by cases hr⟩
  | true =>
    have h' := h
    unfold soughtOk at h'
    simp only [Bool.and_eq_true, decide_eq_true_eq] at h'
    obtain ⟨hc, hw, h8⟩ := h'
    obtain ⟨K, n, rfl, rfl, hf⟩ := codeFit_of hc
    have hk2 := hf.k2
    have hk3 := hf.k3
    have hn1 := hf.n1
    have hn4 := hf.n4
    refine ⟨_, _, _, fun w => impl_FirstSource_yes K n o s w h hf, fun w => spec_FirstSource_yes K n o s w h hf, fun w => impl_CountSources_yes K n o s w h hf, fun w => spec_CountSources_yes K n o s w h hf, ?_, fun hr w => ?_⟩
    · have hf' := firstL_found (K := K) hn1 (by omega) hk3 o s.data.toList
      rw [countOf_srcN hn1 (by omega) hk3]
      unfold firstS
      rw [show s.data.toList.length = s.size from Array.length_toList] at hf'
      rw [hf']
      rw [decide_eq_decide]
      omega
    · cases hx : firstS K n o s with
      | none => rw [hx] at hr; cases hr
      | some t =>
        unfold firstS at hx
        rw [show s.size = s.data.toList.length from Array.length_toList.symm] at hx
        obtain ⟨h1, h2, h3⟩ := firstL_image hn1 (by omega) hk3 hx
        have hl : s.data.toList.length = s.size := Array.length_toList
        have hwt : wordOk K (mkS t) = true := by
          unfold wordOk
          rw [mkS_size, mkS_data, h2]
          simp
          omega
        have h4 := spec_ApplyCode_yes K n o (mkS t) w hc hf hwt
        rw [mkS_data, h3, mkS_data_self] at h4
        exact h4

theorem bal_facts (L W n : Int) (o : ByteArray) (ho : o.size ≤ maxLen) : ∃ b : Bool,
    (∀ w, Calls Try.prog 21 #[.agg #[.int .i64 L, .int .i64 W, .string o], .int .i64 n] w fun e w' => e = .returned (.bool b) ∧ Ext w w') ∧
    (∀ w, Calls Try.prog 22 #[.agg #[.int .i64 L, .int .i64 W, .string o], .int .i64 n] w fun e w' => e = .returned (.bool b) ∧ Ext w w') ∧
    (ontoB L W o = true → 0 ≤ n → n ≤ 5 → b = true) := by
  cases h : (codeOk L W o && (decide (0 ≤ n) && decide (n ≤ 5))) with
  | false =>
    refine ⟨_, fun w => impl_IsBalanced_no L W n o w ho h, fun w => spec_IsBalanced_no L W n o w ho h, fun h1 h2 h3 => ?_⟩
    unfold ontoB at h1
    simp only [Bool.and_eq_true] at h1
    rw [h1.1, decide_eq_true h2, decide_eq_true h3] at h
    cases h
  | true =>
    simp only [Bool.and_eq_true, decide_eq_true_eq] at h
    obtain ⟨hc, h0, h5⟩ := h
    obtain ⟨k, rfl⟩ := Int.eq_ofNat_of_zero_le h0
    obtain ⟨K, m, rfl, rfl, hf⟩ := codeFit_of hc
    refine ⟨_, fun w => impl_IsBalanced_yes K m k o w hc hf (by omega), fun w => spec_IsBalanced_yes K m k o w hc hf (by omega), fun h1 _ _ => ?_⟩
    obtain ⟨m, rfl⟩ : ∃ m', m = m' + 1 := ⟨m - 1, by have := hf.n1; omega⟩
    have hk2 := hf.k2
    have hk3 := hf.k3
    unfold ontoB at h1
    simp only [Bool.and_eq_true] at h1
    have hn : orphL K (K ^ m) o = none := by
      have := h1.2
      simpa using this
    have hall := fun w hw => orphL_none (by omega) hk3 (fit_pow hf) hn w hw
    unfold balB
    rw [List.all_eq_true]
    intro i hi
    rw [decide_eq_true_eq]
    have hi' : i < K ^ k := List.mem_range.1 hi
    unfold cntW
    have hlet : areLet (K : Nat) ((wordsL K k).getD i []) = true := by
      rw [List.getD_eq_getElem?_getD, List.getElem?_eq_getElem (by rw [wordsL_length]; exact hi')]
      exact (mem_wordsL (List.getElem_mem _) (by omega) hk3).2
    rw [countOf_srcN (by omega) (by omega) hk3, mkS_data]
    exact onto_eq (by omega) (by omega) hk3 o hf.size hf.lets hall _ hlet

theorem twin_facts (L W : Int) (o : ByteArray) (ho : o.size ≤ maxLen) : ∃ (x y : ByteArray) (r : Bool),
    (∀ w, Calls Try.prog 16 #[.agg #[.int .i64 L, .int .i64 W, .string o]] w fun e w' => e = .returned (.tuple #[.string x, .string y, .bool r]) ∧ Ext w w') ∧
    (∀ w, Calls Try.prog 17 #[.agg #[.int .i64 L, .int .i64 W, .string o]] w fun e w' => e = .returned (.tuple #[.string x, .string y, .bool r]) ∧ Ext w w') ∧
    (r = true → x ≠ y ∧ ontoB L W o = false ∧ ∃ a : ByteArray,
      (∀ w, Calls Try.prog 23 #[.agg #[.int .i64 L, .int .i64 W, .string o], .string x] w fun e w' => e = .returned (.tuple #[.string a, .bool true]) ∧ Ext w w') ∧
      (∀ w, Calls Try.prog 23 #[.agg #[.int .i64 L, .int .i64 W, .string o], .string y] w fun e w' => e = .returned (.tuple #[.string a, .bool true]) ∧ Ext w w')) := by
  cases h : (codeOk L W o && decide (L = 2)) with
  | false => exact ⟨_, _, _, fun w => impl_TwinsOf_no L W o w ho h, fun w => spec_TwinsOf_no L W o w ho h, fun hr => by cases hr⟩
  | true =>
    simp only [Bool.and_eq_true, decide_eq_true_eq] at h
    obtain ⟨hc, rfl⟩ := h
    have hc' := hc
    obtain ⟨K, n, hK, rfl, hf⟩ := codeFit_of hc
    obtain rfl : K = 2 := by omega
    have h1 := fun w => impl_TwinsOf_yes n o w hf hc'
    have h2 := fun w => spec_TwinsOf_yes n o w hf hc'
    cases hr : twinL 2 n o with
    | none =>
      rw [hr] at h1 h2
      exact ⟨_, _, _, h1, h2, fun hr => by cases hr⟩
    | some p =>
      obtain ⟨x, y⟩ := p
      rw [hr] at h1 h2
      obtain ⟨t1, t2, t3, t4, t5, t6, t7, t8, t9⟩ := twinL_some hr
      refine ⟨_, _, _, h1, h2, fun _ => ⟨fun e => t1 ?_, ?_, ?_⟩⟩
      · have := congrArg (fun b : ByteArray => b.data.toList) e
        simpa [mkS_data] using this
      · obtain ⟨m, rfl⟩ : ∃ m, n = m + 1 := ⟨n - 1, by have := hf.n1; omega⟩
        have := twinL_orphan (m := m) (o := o) (by have := hf.n4; omega) hf.size hf.lets (by rw [hr]; rfl)
        unfold ontoB
        simp [this]
      · have hw : ∀ t : List UInt8, t.length ≤ 7 → areLet 2 t = true → wordOk (2 : Nat) (mkS t) = true := fun t h1 h2 => by
          unfold wordOk
          rw [mkS_size, mkS_data]
          have h2' : areLet ((2 : Nat) : Int) t = true := h2
          rw [h2']
          simp
          omega
        refine ⟨mkS (applyL 2 n o x), fun w => ?_, fun w => ?_⟩
        · have := spec_ApplyCode_yes 2 n o (mkS x) w hc' hf (hw x t4 t5)
          rwa [mkS_data] at this
        · have := spec_ApplyCode_yes 2 n o (mkS y) w hc' hf (hw y (by omega) t6)
          rwa [mkS_data, ← t9] at this
end Go.Proofs.Ytfkdpeifnfpldaa
