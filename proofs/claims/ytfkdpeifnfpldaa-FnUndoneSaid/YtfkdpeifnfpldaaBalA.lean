/- Contracts: IsBalanced of both. -/
import Derived.Test.YtfkdpeifnfpldaaSrcC
import Derived.Test.YtfkdpeifnfpldaaPkM
import Derived.Test.YtfkdpeifnfpldaaPkC
namespace Go.Proofs.Ytfkdpeifnfpldaa
open Go.RowKit Go.Cm

/-- the number of sources of a word by its index -/
def cntW (K n m : Nat) (o : ByteArray) (i : Nat) : Nat := countOf K n o (mkS ((wordsL K m).getD i []))
def balB (K n m : Nat) (o : ByteArray) : Bool := (List.range (K ^ m)).all fun i => decide (cntW K n m o i = K ^ (n - 1))
/-- the first i words have so many sources -/
def SameTo (K n m : Nat) (o : ByteArray) (q i : Nat) : Prop := ∀ j, j < i → cntW K n m o j = q
theorem SameTo.zero (K n m : Nat) (o : ByteArray) (q : Nat) : SameTo K n m o q 0 := fun j h => absurd h (Nat.not_lt_zero j)
theorem SameTo.succ {K n m : Nat} {o : ByteArray} {q i : Nat} (h : SameTo K n m o q i) (he : cntW K n m o i = q) : SameTo K n m o q (i + 1) := fun j hj => by
  by_cases e : j = i
  · rw [e]; exact he
  · exact h j (by omega)
theorem balB_yes {K n m : Nat} {o : ByteArray} (h : SameTo K n m o (K ^ (n - 1)) (K ^ m)) : balB K n m o = true := by
  unfold balB
  rw [List.all_eq_true]
  intro i hi
  simpa using h i (by simpa using hi)
theorem balB_no {K n m : Nat} {o : ByteArray} {i : Nat} (hi : i < K ^ m) (h : cntW K n m o i ≠ K ^ (n - 1)) : balB K n m o = false := by
  unfold balB
  rw [List.all_eq_false]
  exact ⟨i, by simpa using hi, by simpa using h⟩
theorem balB_same {K n m : Nat} {o : ByteArray} {q : Nat} (hf : CodeFit K n o) (h : SameTo K n m o q (K ^ m)) : balB K n m o = true := by
  have hk2 := hf.k2
  have hn1 := hf.n1
  have hq : q = K ^ (n - 1) := by
    refine balanced_is (n := K ^ (n - 1)) (K := K) (Nat.pow_pos (by omega)) (by omega) hf.k3 o ?_ hf.lets m q fun u hu => ?_
    · rw [hf.size, ← Nat.pow_succ]; congr 1; omega
    · obtain ⟨i, hi, hiu⟩ := List.getElem_of_mem hu
      have := h i (by simpa [wordsL] using hi)
      unfold cntW countOf at this
      rw [List.getD_eq_getElem?_getD, List.getElem?_eq_getElem hi, Option.getD_some, hiu, mkS_data] at this
      exact this
  subst hq
  exact balB_yes h
theorem balB_diff {K n m : Nat} {o : ByteArray} {i j : Nat} (hi : i < K ^ m) (hj : j < K ^ m) (h : cntW K n m o i ≠ cntW K n m o j) : balB K n m o = false := by
  by_cases e : cntW K n m o i = K ^ (n - 1)
  · exact balB_no hj (by rw [← e]; exact Ne.symm h)
  · exact balB_no hi e

def isBal (L W m : Int) (o : ByteArray) : Bool := codeOk L W o && (decide (0 ≤ m) && (decide (m ≤ 5) && balB L.toNat W.toNat m.toNat o))

theorem pow_small {K m : Nat} (hK : K ≤ 3) (hm : m ≤ 5) : K ^ m ≤ 243 := by
  have h1 : K ^ m ≤ 3 ^ m := Nat.pow_le_pow_left hK m
  have h2 : 3 ^ m ≤ 3 ^ 5 := Nat.pow_le_pow_right (by omega) hm
  have h3 : (3 : Nat) ^ 5 = 243 := by decide
  omega
theorem countOf_le {K n : Nat} {o s : ByteArray} (hf : CodeFit K n o) (hs : s.size ≤ 8) : countOf K n o s ≤ 7625597484987 := by
  have hn1 := hf.n1
  have hk2 := hf.k2
  have hNK : K ^ (n - 1) * K ≤ 27 := by rw [← Nat.pow_succ, show (n - 1).succ = n by omega]; exact hf.le
  have h1 := sumTo_le (countC_bnd (K := K) hNK o s.data.toList) (K ^ (n - 1))
  have h2 := sumTo_all (countC K (K ^ (n - 1)) o s.data.toList)
  rw [countC_length] at h2
  rw [h2] at h1
  have h3 : 27 ^ s.data.toList.length ≤ 282429536481 := pow27_le (by simpa using hs)
  have h4 : K ^ (n - 1) ≤ 27 := by
    have : K ^ (n - 1) * 1 ≤ K ^ (n - 1) * K := Nat.mul_le_mul_left _ (by omega)
    omega
  have h5 : K ^ (n - 1) * 27 ^ s.data.toList.length ≤ 27 * 282429536481 := Nat.mul_le_mul h4 h3
  unfold countOf
  omega

set_option maxRecDepth 100000 in
set_option maxHeartbeats 2000000 in
theorem impl_IsBalanced_yes (K n m : Nat) (o : ByteArray) (w : World) (hcd : codeOk K n o = true) (hf : CodeFit K n o) (hm : m ≤ 5) :
    Calls Try.prog 21 #[.agg #[.int .i64 K, .int .i64 n, .string o], .int .i64 m] w fun e w' => e = .returned (.bool (balB K n m o)) ∧ Ext w w' := by
  have hk2 := hf.k2
  have hk3 := hf.k3
  have ho : o.size ≤ maxLen := by have := hf.size; have := hf.le; unfold maxLen; omega
  have hM := pow_small hk3 hm
  have hMp : 0 < K ^ m := Nat.pow_pos (by omega)
  obtain ⟨b, hb⟩ : ∃ b, b = balB K n m o := ⟨_, rfl⟩
  rw [← hb]
  obtain ⟨M, hMM⟩ : ∃ M, M = K ^ m := ⟨_, rfl⟩
  rw [← hMM] at hM hMp
  have HB := Lib.hid (And.intro hb hMM)
  have HCD := Lib.hid hcd
  have hd1 : decide ((m : Int) < 0) = false := by simp
  have hd2 : decide (5 < (m : Int)) = false := by simp; omega
  clear hb hMM hcd
  go_enter Try.func21, Try.ntmps21
  go_wp2_with fail
  refine (impl_IsCode_any _ _ _ _ ho).mono ?_
  rintro e w1 ⟨rfl, hx⟩
  rw [HCD.out]
  have bo := (show Blk _ w.heap.size #[.int .i64 K, .int .i64 n, .string o] by (repeat (first | (refine Blk.mk' ?_; (simp; done)) | apply Blk.old))).ext hx
  replace hx := (Ext.alloc _ _).trans hx
  obtain ⟨c0, c1, c2, -, -, -⟩ := bo.c3
  go_wp2_with fail
  refine (impl_wordsOf_any K m _ (by omega) hk3 (by omega) (by rw [← HB.out.2]; omega)).mono ?_
  rintro e w2 ⟨v23, rfl, hw, hx2⟩
  have hwl : (scells (wordsL K m)).length = M := by rw [HB.out.2]; simp [scells, wordsL]
  have hsh := hw.shape
  rw [hwl] at hsh
  rcases hsh with ⟨_, hnil⟩ | ⟨g, cap, rfl, hg, _, _, _⟩
  · exfalso
    rw [hnil] at hwl
    simp at hwl
    omega
  have HWL := Lib.hid hwl
  replace bo := bo.ext hx2
  replace hx := hx.trans hx2
  clear hx2 hg c0 c1 c2 hwl
  have hM1 := hM
  go_wp2
  go_loopw [5, 25] (fun p i wr => ∃ k : Nat, k ≤ M ∧ i = .int .i64 k ∧ p = .int .i64 (if k = 0 then -1 else (cntW K n m o 0 : Nat)) ∧ SameTo K n m o (cntW K n m o 0) k ∧ Ext w2 wr) (fun _ i _ => M - (intOf i).toNat)
  case atStart => exact ⟨0, by omega, rfl, rfl, SameTo.zero K n m o _, Ext.refl _⟩
  case round =>
    obtain ⟨k, hk, rfl, rfl, hsame, hxr⟩ := hrel
    obtain ⟨c0, c1, c2, -, -, -⟩ := (bo.ext hxr).c3
    by_cases hlt : k < M
    · have hcell0 := (hw.ext hxr).cell k (by rw [HWL.out]; exact hlt)
      have hlw : k < (wordsL K m).length := by have := HWL.out; simp [scells] at this; omega
      obtain ⟨u, hu⟩ : ∃ u, u = (wordsL K m).getD k [] := ⟨_, rfl⟩
      have hcell : wr.cell? ⟨g, k, none⟩ = some (.string (mkS u)) := by
        rw [hcell0, hu, List.getD_eq_getElem?_getD, List.getElem?_eq_getElem hlw]
        simp [scells]
      clear hcell0
      have hum : u.length = m ∧ areLet K u = true := by
        refine mem_wordsL (n := m) ?_ (by omega) hk3
        rw [hu, List.getD_eq_getElem?_getD, List.getElem?_eq_getElem hlw]
        exact List.getElem_mem _
      have hus : (mkS u).size ≤ 8 := by rw [mkS_size]; omega
      have hcnt : cntW K n m o k = countOf K n o (mkS u) := by rw [hu]; rfl
      have hcall := fun w => impl_countSources_any K n (n - 1) _ o (mkS u) w (by have := hf.n1; omega) rfl hf hus
      have hle := countOf_le hf hus
      have hcall : ∀ w, Calls Try.prog 58 #[.agg #[.int .i64 K, .int .i64 n, .string o], .string (mkS u)] w fun e w' => e = .returned (.int .i64 (countOf K n o (mkS u) : Nat)) ∧ Ext w w' := hcall
      rw [← hcnt] at hcall hle
      have HC := Lib.hid hcall
      obtain ⟨x, hx'⟩ : ∃ x, x = cntW K n m o k := ⟨_, rfl⟩
      obtain ⟨q, hq'⟩ : ∃ q, q = cntW K n m o 0 := ⟨_, rfl⟩
      have HX := Lib.hid (And.intro hx' hq')
      have hcall : ∀ w, Calls Try.prog 58 #[.agg #[.int .i64 K, .int .i64 n, .string o], .string (mkS u)] w fun e w' => e = .returned (.int .i64 (x : Nat)) ∧ Ext w w' := by rw [hx']; exact hcall
      rw [← hq'] at hsame ⊢
      rw [← hx'] at hle
      have HC := Lib.hid hcall
      have HK := Lib.hid hlw
      clear hcall hcnt hu hum hx' hq' hlw
      by_cases hk0 : k = 0
      · rw [if_pos hk0]
        have HK0 := Lib.hid hk0
        clear hk0
        go_wp2_with fail
        with_reducible refine (HC.out _).mono ?_
        rintro e w3 ⟨rfl, hx3⟩
        go_wp2
        go_roundw
        case rel => exact ⟨k + 1, by omega, by go_num, by have h1 := HK0.out; have h2 := HX.out; rw [if_neg (by omega), h2.1, h1, ← h2.2], hsame.succ (by have h1 := HK0.out; have h2 := HX.out; rw [h1, ← h2.2]), hxr.trans hx3⟩
        case measure => simp [intOf]; omega
      · rw [if_neg hk0]
        have hq0 : (0 : Int) ≤ (q : Int) := by omega
        by_cases hxq : x = q
        · subst hxq
          go_wp2_with fail
          with_reducible refine (HC.out _).mono ?_
          rintro e w3 ⟨rfl, hx3⟩
          go_wp2
          go_roundw
          case rel => exact ⟨k + 1, by omega, by go_num, by simp [HX.out.2], hsame.succ HX.out.1.symm, hxr.trans hx3⟩
          case measure => simp [intOf]; omega
        · go_wp2_with fail
          with_reducible refine (HC.out _).mono ?_
          rintro e w3 ⟨rfl, hx3⟩
          go_wp2
          go_ret
          exact ⟨ret_bool (by rw [HB.out.1, balB_diff (i := k) (j := 0) (by rw [← HB.out.2]; exact hlt) (by rw [← HB.out.2]; omega) (by rw [← HX.out.1, ← HX.out.2]; exact hxq)]), (hx.trans hxr).trans hx3⟩
    · have hkM : k = M := by omega
      subst hkM
      go_wp2
      go_ret
      exact ⟨ret_bool (by rw [HB.out.1, balB_same hf (by rw [← HB.out.2]; exact hsame)]), hx.trans hxr⟩

set_option maxHeartbeats 1000000 in
theorem impl_IsBalanced_no (L W m : Int) (o : ByteArray) (w : World) (ho : o.size ≤ maxLen) (h : (codeOk L W o && (decide (0 ≤ m) && decide (m ≤ 5))) = false) :
    Calls Try.prog 21 #[.agg #[.int .i64 L, .int .i64 W, .string o], .int .i64 m] w fun e w' => e = .returned (.bool false) ∧ Ext w w' := by
  cases hc : codeOk L W o with
  | false =>
    clear h
    go_enter Try.func21, Try.ntmps21
    go_wp2_with fail
    refine (impl_IsCode_any _ _ _ _ ho).mono ?_
    rintro e w1 ⟨rfl, hx⟩
    rw [hc]
    replace hx := (Ext.alloc _ _).trans hx
    go_wp2
    go_ret
    exact ⟨rfl, hx⟩
  | true =>
    have hm : m < 0 ∨ 5 < m := by rw [hc] at h; simp at h; omega
    have HC := Lib.hid hc
    clear h hc
    rcases hm with hm | hm
    · have hd1 : decide (m < 0) = true := by simpa using hm
      go_enter Try.func21, Try.ntmps21
      go_wp2_with fail
      refine (impl_IsCode_any _ _ _ _ ho).mono ?_
      rintro e w1 ⟨rfl, hx⟩
      rw [HC.out]
      replace hx := (Ext.alloc _ _).trans hx
      go_wp2
      go_ret
      exact ⟨rfl, hx⟩
    · have hd1 : decide (m < 0) = false := by simp; omega
      have hd2 : decide (5 < m) = true := by simpa using hm
      go_enter Try.func21, Try.ntmps21
      go_wp2_with fail
      refine (impl_IsCode_any _ _ _ _ ho).mono ?_
      rintro e w1 ⟨rfl, hx⟩
      rw [HC.out]
      replace hx := (Ext.alloc _ _).trans hx
      go_wp2
      go_ret
      exact ⟨rfl, hx⟩

set_option maxHeartbeats 1000000 in
theorem spec_IsBalanced_no (L W m : Int) (o : ByteArray) (w : World) (ho : o.size ≤ maxLen) (h : (codeOk L W o && (decide (0 ≤ m) && decide (m ≤ 5))) = false) :
    Calls Try.prog 22 #[.agg #[.int .i64 L, .int .i64 W, .string o], .int .i64 m] w fun e w' => e = .returned (.bool false) ∧ Ext w w' := by
  cases hc : codeOk L W o with
  | false =>
    clear h
    go_enter Try.func22, Try.ntmps22
    go_wp2_with fail
    refine (spec_IsCode_any _ _ _ _ ho).mono ?_
    rintro e w1 ⟨rfl, hx⟩
    rw [hc]
    replace hx := (Ext.alloc _ _).trans hx
    go_wp2
    go_ret
    exact ⟨rfl, hx⟩
  | true =>
    have hm : m < 0 ∨ 5 < m := by rw [hc] at h; simp at h; omega
    have HC := Lib.hid hc
    have HM := Lib.hid hm
    clear h hc hm
    go_enter Try.func22, Try.ntmps22
    go_wp2_with fail
    refine (spec_IsCode_any _ _ _ _ ho).mono ?_
    rintro e w1 ⟨rfl, hx⟩
    rw [HC.out]
    replace hx := (Ext.alloc _ _).trans hx
    go_wp2_with fail
    refine (spec_l1In_no m 0 5 _ (by have := HM.out; omega)).mono ?_
    rintro e w2 ⟨rfl, rfl⟩
    go_wp2
    go_ret
    exact ⟨rfl, hx⟩

set_option maxRecDepth 100000 in
set_option maxHeartbeats 2000000 in
theorem spec_IsBalanced_yes (K n m : Nat) (o : ByteArray) (w : World) (hcd : codeOk K n o = true) (hf : CodeFit K n o) (hm : m ≤ 5) :
    Calls Try.prog 22 #[.agg #[.int .i64 K, .int .i64 n, .string o], .int .i64 m] w fun e w' => e = .returned (.bool (balB K n m o)) ∧ Ext w w' := by
  have hk2 := hf.k2
  have hk3 := hf.k3
  have hn1 := hf.n1
  have hn4 := hf.n4
  have ho : o.size ≤ maxLen := by have := hf.size; have := hf.le; unfold maxLen; omega
  have hM := pow_small hk3 hm
  have hMp : 0 < K ^ m := Nat.pow_pos (by omega)
  obtain ⟨b, hb⟩ : ∃ b, b = balB K n m o := ⟨_, rfl⟩
  rw [← hb]
  obtain ⟨M, hMM⟩ : ∃ M, M = K ^ m := ⟨_, rfl⟩
  rw [← hMM] at hM hMp
  have HB := Lib.hid (And.intro hb hMM)
  have HCD := Lib.hid hcd
  clear hb hMM hcd
  have hpw : pw (K : Int) ((n : Int) - 1) = ((K ^ (n - 1) : Nat) : Int) := by rw [show (n : Int) - 1 = ((n - 1 : Nat) : Int) by omega, pw_nat]
  obtain ⟨N, hN⟩ : ∃ N, N = K ^ (n - 1) := ⟨_, rfl⟩
  rw [← hN] at hpw
  have hp := fun w => spec_l11Power_any (K : Int) ((n : Int) - 1) w (by omega) (by omega) (by omega) (by omega)
  rw [hpw] at hp
  have HP := Lib.hid hp
  have HN := Lib.hid hN
  clear hp hpw hN
  go_enter Try.func22, Try.ntmps22
  go_wp2_with fail
  refine (spec_IsCode_any _ _ _ _ ho).mono ?_
  rintro e w1 ⟨rfl, hx⟩
  rw [HCD.out]
  have bo := (show Blk _ w.heap.size #[.int .i64 K, .int .i64 n, .string o] by (repeat (first | (refine Blk.mk' ?_; (simp; done)) | apply Blk.old))).ext hx
  replace hx := (Ext.alloc _ _).trans hx
  obtain ⟨c0, c1, c2, -, -, -⟩ := bo.c3
  go_wp2_with fail
  refine (spec_l1In_yes (m : Int) 0 5 _ (by omega) (by omega)).mono ?_
  rintro e w1 ⟨rfl, rfl⟩
  go_wp2_with fail
  refine (spec_l2All_any K m _ (by omega) hk3 (by omega)).mono ?_
  rintro e w2 ⟨v18, rfl, hw, hx2⟩
  have hwl : (scells (wordsL K m)).length = M := by rw [HB.out.2]; simp [scells, wordsL]
  have hsh := hw.shape
  rw [hwl] at hsh
  rcases hsh with ⟨_, hnil⟩ | ⟨g, cap, rfl, hg, _, _, _⟩
  · exfalso
    rw [hnil] at hwl
    simp at hwl
    omega
  have HWL := Lib.hid hwl
  replace bo := bo.ext hx2
  replace hx := hx.trans hx2
  clear hx2 hg c0 c1 c2 hwl
  go_wp2
  go_loopw [6] (fun i wr => ∃ k : Nat, k ≤ M ∧ i = .int .i64 k ∧ SameTo K n m o N k ∧ Ext w2 wr) (fun i _ => M - (intOf i).toNat)
  case atStart => exact ⟨0, by omega, rfl, SameTo.zero K n m o _, Ext.refl _⟩
  case round =>
    obtain ⟨k, hk, rfl, hsame, hxr⟩ := hrel
    obtain ⟨c0, c1, c2, -, -, -⟩ := (bo.ext hxr).c3
    by_cases hlt : k < M
    · have hcell0 := (hw.ext hxr).cell k (by rw [HWL.out]; exact hlt)
      have hlw : k < (wordsL K m).length := by have := HWL.out; simp [scells] at this; omega
      obtain ⟨u, hu⟩ : ∃ u, u = (wordsL K m).getD k [] := ⟨_, rfl⟩
      have hcell : wr.cell? ⟨g, k, none⟩ = some (.string (mkS u)) := by
        rw [hcell0, hu, List.getD_eq_getElem?_getD, List.getElem?_eq_getElem hlw]
        simp [scells]
      clear hcell0
      have hum : u.length = m ∧ areLet K u = true := by
        refine mem_wordsL (n := m) ?_ (by omega) hk3
        rw [hu, List.getD_eq_getElem?_getD, List.getElem?_eq_getElem hlw]
        exact List.getElem_mem _
      have hus : (mkS u).size ≤ 8 := by rw [mkS_size]; omega
      have hcnt : cntW K n m o k = countOf K n o (mkS u) := by rw [hu]; rfl
      have hsought : soughtOk K n o (mkS u) = true := by
        have h1 : wordOk K (mkS u) = true := by
          have : (mkS u).size ≤ 16 := by omega
          simp [wordOk, mkS_data, hum.2, this]
          omega
        simp [soughtOk, HCD.out, h1, hus]
      have hcall := fun w => spec_CountSources_yes K n o (mkS u) w hsought hf
      have hle := countOf_le hf hus
      rw [← hcnt] at hcall hle
      obtain ⟨x, hx'⟩ : ∃ x, x = cntW K n m o k := ⟨_, rfl⟩
      have HX := Lib.hid hx'
      rw [← hx'] at hcall hle
      have HC := Lib.hid hcall
      clear hcall hcnt hu hum hx' hlw hus hsought
      by_cases hxq : x = N
      · subst hxq
        go_wp2
        refine wp_region_inv (by kernel_rfl) (.known ?hx5_40_v0 :: .known ?hx5_40_v1 :: .known ?hx5_40_v2 :: .known ?hx5_40_v3 :: .known ?hx5_40_v4 :: .known (.int .i64 (x : Nat)) :: .known ?hx5_40_v6 :: .known ?hx5_40_v7 :: .known ?hx5_40_v8 :: .known ?hx5_40_v9 :: .known ?hx5_40_v10 :: .known (.int .i64 (x : Nat)) :: .known ?hx5_40_v12 :: []) rfl (by kernel_rfl) ?hx5_40_s ?hx5_40_p
        case hx5_40_s =>
          intro vs
          refine ⟨fun w' hxw hj => ?_, fun w' hxw hj => ?_, fun w' hxw hj => ?_, fun w' hxw hj => ?_, fun w' hxw hj => ?_, fun w' hxw hj => ?_, fun w' hxw hj => ?_, fun w' hxw hj => ?_, fun w' hxw hj => ?_, fun w' hxw hj => ?_, fun w' hxw hj => ?_, fun w' hxw hj => ?_, fun w' hxw hj => ?_, trivial⟩
          · have c0 := Ext.cell_some hxw c0
            have c1 := Ext.cell_some hxw c1
            have c2 := Ext.cell_some hxw c2
            have hcell := Ext.cell_some hxw hcell
            clear hj
            go_simp
            try go_bits
            first | rfl | (rw [if_pos (by omega), if_pos (by omega)]; go_simp; rfl) | (rw [if_pos (by omega)]; go_simp; rfl) | skip
          · have c0 := Ext.cell_some hxw c0
            have c1 := Ext.cell_some hxw c1
            have c2 := Ext.cell_some hxw c2
            have hcell := Ext.cell_some hxw hcell
            clear hj
            go_simp
            try go_bits
            first | rfl | (rw [if_pos (by omega), if_pos (by omega)]; go_simp; rfl) | (rw [if_pos (by omega)]; go_simp; rfl) | skip
          · have c0 := Ext.cell_some hxw c0
            have c1 := Ext.cell_some hxw c1
            have c2 := Ext.cell_some hxw c2
            have hcell := Ext.cell_some hxw hcell
            clear hj
            go_simp
            try go_bits
            first | rfl | (rw [if_pos (by omega), if_pos (by omega)]; go_simp; rfl) | (rw [if_pos (by omega)]; go_simp; rfl) | skip
          · have c0 := Ext.cell_some hxw c0
            have c1 := Ext.cell_some hxw c1
            have c2 := Ext.cell_some hxw c2
            have hcell := Ext.cell_some hxw hcell
            clear hj
            go_simp
            try go_bits
            first | rfl | (rw [if_pos (by omega), if_pos (by omega)]; go_simp; rfl) | (rw [if_pos (by omega)]; go_simp; rfl) | skip
          · have c0 := Ext.cell_some hxw c0
            have c1 := Ext.cell_some hxw c1
            have c2 := Ext.cell_some hxw c2
            have hcell := Ext.cell_some hxw hcell
            clear hj
            go_simp
            try go_bits
            first | rfl | (rw [if_pos (by omega), if_pos (by omega)]; go_simp; rfl) | (rw [if_pos (by omega)]; go_simp; rfl) | skip
          · have c0 := Ext.cell_some hxw c0
            have c1 := Ext.cell_some hxw c1
            have c2 := Ext.cell_some hxw c2
            have hcell := Ext.cell_some hxw hcell
            clear hj
            go_simp
            try go_bits
            exact HC.out _
          · have c0 := Ext.cell_some hxw c0
            have c1 := Ext.cell_some hxw c1
            have c2 := Ext.cell_some hxw c2
            have hcell := Ext.cell_some hxw hcell
            clear hj
            go_simp
            try go_bits
            first | rfl | (rw [if_pos (by omega), if_pos (by omega)]; go_simp; rfl) | (rw [if_pos (by omega)]; go_simp; rfl) | skip
          · have c0 := Ext.cell_some hxw c0
            have c1 := Ext.cell_some hxw c1
            have c2 := Ext.cell_some hxw c2
            have hcell := Ext.cell_some hxw hcell
            clear hj
            go_simp
            try go_bits
            first | rfl | (rw [if_pos (by omega), if_pos (by omega)]; go_simp; rfl) | (rw [if_pos (by omega)]; go_simp; rfl) | skip
          · have c0 := Ext.cell_some hxw c0
            have c1 := Ext.cell_some hxw c1
            have c2 := Ext.cell_some hxw c2
            have hcell := Ext.cell_some hxw hcell
            clear hj
            go_simp
            try go_bits
            first | rfl | (rw [if_pos (by omega), if_pos (by omega)]; go_simp; rfl) | (rw [if_pos (by omega)]; go_simp; rfl) | skip
          · have c0 := Ext.cell_some hxw c0
            have c1 := Ext.cell_some hxw c1
            have c2 := Ext.cell_some hxw c2
            have hcell := Ext.cell_some hxw hcell
            clear hj
            go_simp
            try go_bits
            first | rfl | (rw [if_pos (by omega), if_pos (by omega)]; go_simp; rfl) | (rw [if_pos (by omega)]; go_simp; rfl) | skip
          · have c0 := Ext.cell_some hxw c0
            have c1 := Ext.cell_some hxw c1
            have c2 := Ext.cell_some hxw c2
            have hcell := Ext.cell_some hxw hcell
            clear hj
            go_simp
            try go_bits
            first | rfl | (rw [if_pos (by omega), if_pos (by omega)]; go_simp; rfl) | (rw [if_pos (by omega)]; go_simp; rfl) | skip
          · have c0 := Ext.cell_some hxw c0
            have c1 := Ext.cell_some hxw c1
            have c2 := Ext.cell_some hxw c2
            have hcell := Ext.cell_some hxw hcell
            clear hj
            go_simp
            try go_bits
            exact (HP.out _).mono fun _ _ ⟨h1, h2⟩ => ⟨h1, h2 ▸ Ext.refl _⟩
          · have c0 := Ext.cell_some hxw c0
            have c1 := Ext.cell_some hxw c1
            have c2 := Ext.cell_some hxw c2
            have hcell := Ext.cell_some hxw hcell
            clear hj
            go_simp
            try go_bits
            first | rfl | (rw [if_pos (by omega), if_pos (by omega)]; go_simp; rfl) | (rw [if_pos (by omega)]; go_simp; rfl) | skip
        case' hx5_40_p =>
          intro vs w5 hx5 hk
          clear hk
          replace c0 := Ext.cell_some hx5 c0
          replace c1 := Ext.cell_some hx5 c1
          replace c2 := Ext.cell_some hx5 c2
          replace hcell := Ext.cell_some hx5 hcell
          replace hxr := Ext.trans hxr hx5
          go_simp
          clear hx5
          go_wp2
          go_roundw
          case rel => exact ⟨k + 1, by omega, by go_num, hsame.succ HX.out.symm, hxr⟩
          case measure => simp [intOf]; omega
      · go_wp2
        refine wp_region_inv (by kernel_rfl) (.known ?hx5_41_v0 :: .known ?hx5_41_v1 :: .known ?hx5_41_v2 :: .known ?hx5_41_v3 :: .known ?hx5_41_v4 :: .known (.int .i64 (x : Nat)) :: .known ?hx5_41_v6 :: .known ?hx5_41_v7 :: .known ?hx5_41_v8 :: .known ?hx5_41_v9 :: .known ?hx5_41_v10 :: .known (.int .i64 (N : Nat)) :: .known ?hx5_41_v12 :: []) rfl (by kernel_rfl) ?hx5_41_s ?hx5_41_p
        case hx5_41_s =>
          intro vs
          refine ⟨fun w' hxw hj => ?_, fun w' hxw hj => ?_, fun w' hxw hj => ?_, fun w' hxw hj => ?_, fun w' hxw hj => ?_, fun w' hxw hj => ?_, fun w' hxw hj => ?_, fun w' hxw hj => ?_, fun w' hxw hj => ?_, fun w' hxw hj => ?_, fun w' hxw hj => ?_, fun w' hxw hj => ?_, fun w' hxw hj => ?_, trivial⟩
          · have c0 := Ext.cell_some hxw c0
            have c1 := Ext.cell_some hxw c1
            have c2 := Ext.cell_some hxw c2
            have hcell := Ext.cell_some hxw hcell
            clear hj
            go_simp
            try go_bits
            first | rfl | (rw [if_pos (by omega), if_pos (by omega)]; go_simp; rfl) | (rw [if_pos (by omega)]; go_simp; rfl) | skip
          · have c0 := Ext.cell_some hxw c0
            have c1 := Ext.cell_some hxw c1
            have c2 := Ext.cell_some hxw c2
            have hcell := Ext.cell_some hxw hcell
            clear hj
            go_simp
            try go_bits
            first | rfl | (rw [if_pos (by omega), if_pos (by omega)]; go_simp; rfl) | (rw [if_pos (by omega)]; go_simp; rfl) | skip
          · have c0 := Ext.cell_some hxw c0
            have c1 := Ext.cell_some hxw c1
            have c2 := Ext.cell_some hxw c2
            have hcell := Ext.cell_some hxw hcell
            clear hj
            go_simp
            try go_bits
            first | rfl | (rw [if_pos (by omega), if_pos (by omega)]; go_simp; rfl) | (rw [if_pos (by omega)]; go_simp; rfl) | skip
          · have c0 := Ext.cell_some hxw c0
            have c1 := Ext.cell_some hxw c1
            have c2 := Ext.cell_some hxw c2
            have hcell := Ext.cell_some hxw hcell
            clear hj
            go_simp
            try go_bits
            first | rfl | (rw [if_pos (by omega), if_pos (by omega)]; go_simp; rfl) | (rw [if_pos (by omega)]; go_simp; rfl) | skip
          · have c0 := Ext.cell_some hxw c0
            have c1 := Ext.cell_some hxw c1
            have c2 := Ext.cell_some hxw c2
            have hcell := Ext.cell_some hxw hcell
            clear hj
            go_simp
            try go_bits
            first | rfl | (rw [if_pos (by omega), if_pos (by omega)]; go_simp; rfl) | (rw [if_pos (by omega)]; go_simp; rfl) | skip
          · have c0 := Ext.cell_some hxw c0
            have c1 := Ext.cell_some hxw c1
            have c2 := Ext.cell_some hxw c2
            have hcell := Ext.cell_some hxw hcell
            clear hj
            go_simp
            try go_bits
            exact HC.out _
          · have c0 := Ext.cell_some hxw c0
            have c1 := Ext.cell_some hxw c1
            have c2 := Ext.cell_some hxw c2
            have hcell := Ext.cell_some hxw hcell
            clear hj
            go_simp
            try go_bits
            first | rfl | (rw [if_pos (by omega), if_pos (by omega)]; go_simp; rfl) | (rw [if_pos (by omega)]; go_simp; rfl) | skip
          · have c0 := Ext.cell_some hxw c0
            have c1 := Ext.cell_some hxw c1
            have c2 := Ext.cell_some hxw c2
            have hcell := Ext.cell_some hxw hcell
            clear hj
            go_simp
            try go_bits
            first | rfl | (rw [if_pos (by omega), if_pos (by omega)]; go_simp; rfl) | (rw [if_pos (by omega)]; go_simp; rfl) | skip
          · have c0 := Ext.cell_some hxw c0
            have c1 := Ext.cell_some hxw c1
            have c2 := Ext.cell_some hxw c2
            have hcell := Ext.cell_some hxw hcell
            clear hj
            go_simp
            try go_bits
            first | rfl | (rw [if_pos (by omega), if_pos (by omega)]; go_simp; rfl) | (rw [if_pos (by omega)]; go_simp; rfl) | skip
          · have c0 := Ext.cell_some hxw c0
            have c1 := Ext.cell_some hxw c1
            have c2 := Ext.cell_some hxw c2
            have hcell := Ext.cell_some hxw hcell
            clear hj
            go_simp
            try go_bits
            first | rfl | (rw [if_pos (by omega), if_pos (by omega)]; go_simp; rfl) | (rw [if_pos (by omega)]; go_simp; rfl) | skip
          · have c0 := Ext.cell_some hxw c0
            have c1 := Ext.cell_some hxw c1
            have c2 := Ext.cell_some hxw c2
            have hcell := Ext.cell_some hxw hcell
            clear hj
            go_simp
            try go_bits
            first | rfl | (rw [if_pos (by omega), if_pos (by omega)]; go_simp; rfl) | (rw [if_pos (by omega)]; go_simp; rfl) | skip
          · have c0 := Ext.cell_some hxw c0
            have c1 := Ext.cell_some hxw c1
            have c2 := Ext.cell_some hxw c2
            have hcell := Ext.cell_some hxw hcell
            clear hj
            go_simp
            try go_bits
            exact (HP.out _).mono fun _ _ ⟨h1, h2⟩ => ⟨h1, h2 ▸ Ext.refl _⟩
          · have c0 := Ext.cell_some hxw c0
            have c1 := Ext.cell_some hxw c1
            have c2 := Ext.cell_some hxw c2
            have hcell := Ext.cell_some hxw hcell
            clear hj
            go_simp
            try go_bits
            first | rfl | (rw [if_pos (by omega), if_pos (by omega)]; go_simp; rfl) | (rw [if_pos (by omega)]; go_simp; rfl) | skip
        case' hx5_41_p =>
          intro vs w5 hx5 hk
          clear hk
          replace c0 := Ext.cell_some hx5 c0
          replace c1 := Ext.cell_some hx5 c1
          replace c2 := Ext.cell_some hx5 c2
          replace hcell := Ext.cell_some hx5 hcell
          replace hxr := Ext.trans hxr hx5
          go_simp
          clear hx5
          go_wp2
          go_ret
          exact ⟨ret_bool (by rw [HB.out.1, balB_no (i := k) (by rw [← HB.out.2]; exact hlt) (by rw [← HX.out, ← HN.out]; exact hxq)]), hx.trans hxr⟩
    · have hkM : k = M := by omega
      subst hkM
      go_wp2
      go_ret
      exact ⟨ret_bool (by rw [HB.out.1, balB_yes (by rw [← HB.out.2, ← HN.out]; exact hsame)]), hx.trans hxr⟩
end Go.Proofs.Ytfkdpeifnfpldaa
