/- Contracts: valid shifts, by the program and by the reference. -/
import Derived.Test.YtgbbidlbdjbilaaDoorShA
import Derived.WalkLawsBesides
namespace Go.Proofs.YtgbbidlbdjbilaaDoor
open Go.RowKit Go.Cm

theorem shOkAt_at {L : Int} {F : List (List UInt8)} {k : Nat} {x : List UInt8} (hx : x = F.getD k []) : shOkAt L F k = ((areLet L x && (decide (1 ≤ x.length) && decide (x.length ≤ 3))) && (decide (k = 0) || lessW (F.getD (k - 1) []) x)) := by
  unfold shOkAt
  rw [← hx]
theorem mkS_less (a b : List UInt8) : Op.bytesLess (mkS a).toList (mkS b).toList = lessW a b := by rw [mkS_list, mkS_list]; rfl

set_option maxRecDepth 100000 in
set_option maxHeartbeats 2000000 in
theorem impl_IsShift_any (L : Int) (u : Value) (F : List (List UInt8)) (w : World) (h : ReadsW w u F) (hF : ∀ f ∈ F, f.length ≤ maxLen) :
    Calls Tryd.prog 20 #[.agg #[.int .i64 L, u]] w fun e w' => e = .returned (.bool (shiftOk L F)) ∧ Ext w w' := by
  obtain ⟨pa, ca, rfl⟩ := h.slice
  obtain ⟨-, hlc, hc⟩ := h.len
  obtain ⟨n, hn⟩ : ∃ n, n = F.length := ⟨_, rfl⟩
  rw [← hn] at hlc h ⊢
  have hx := Ext.alloc w (.cells #[.int .i64 L, .slice pa n ca] 27)
  have HM := Lib.hid (And.intro (h.ext hx) (And.intro hn hF))
  clear h hn hF hx
  by_cases hL : 1 ≤ L ∧ L ≤ 3
  rotate_left
  · have HB := Lib.hid (And.intro (shiftOk_head (L := L) (F := F) (.inl hL)) (show (decide (1 ≤ L) && decide (L ≤ 3)) = false by rw [Bool.eq_false_iff]; simp; omega))
    clear hL
    go_enter Tryd.func20, Tryd.ntmps20
    go_wp2_with fail
    with_reducible refine (impl_isLetters_any _ _).mono ?_
    rintro e w' ⟨rfl, rfl⟩
    rw [HB.out.2]
    go_wp2
    go_ret
    exact ⟨ret_bool HB.out.1.symm, Ext.alloc _ _⟩
  by_cases h8 : n ≤ 8
  rotate_left
  · have HB := Lib.hid (And.intro (shiftOk_head (L := L) (F := F) (.inr (by rw [← HM.out.2.1]; exact h8))) (show (decide (1 ≤ L) && decide (L ≤ 3)) = true by simp; omega))
    clear hL
    go_enter Tryd.func20, Tryd.ntmps20
    go_wp2_with fail
    with_reducible refine (impl_isLetters_any _ _).mono ?_
    rintro e w' ⟨rfl, rfl⟩
    rw [HB.out.2]
    go_wp2
    go_ret
    exact ⟨ret_bool HB.out.1.symm, Ext.alloc _ _⟩
  have HB := Lib.hid (show (decide (1 ≤ L) && decide (L ≤ 3)) = true by simp; omega)
  have HA := Lib.hid (show ((decide (1 ≤ L) && decide (L ≤ 3)) && decide (F.length ≤ 8)) = true by rw [HB.out, ← HM.out.2.1, decide_eq_true h8]; rfl)
  clear hL
  go_enter Tryd.func20, Tryd.ntmps20
  go_wp2_with fail
  with_reducible refine (impl_isLetters_any _ _).mono ?_
  rintro e w' ⟨rfl, rfl⟩
  rw [HB.out]
  go_wp2
  go_loop [3, 4, 18] (fun _ _ i => ∃ k : Nat, k ≤ n ∧ i = .int .i64 k ∧ ∀ j, j < k → shOkAt L F j = true) (fun _ _ i => n - (intOf i).toNat)
  case atStart => exact ⟨0, by omega, rfl, fun j hj => by omega⟩
  case round =>
    obtain ⟨k, hk, rfl, hp⟩ := hrel
    have HP := Lib.hid hp
    clear hp
    by_cases hlt : k < n
    · have hkm : k < F.length := by rw [← HM.out.2.1]; exact hlt
      obtain ⟨b, o, rfl, hcell⟩ := HM.out.1.at k hkm
      have hmem : F.getD k [] ∈ F := by
        rw [List.getD_eq_getElem?_getD, List.getElem?_eq_getElem hkm]
        exact List.getElem_mem hkm
      have hfl := HM.out.2.2 _ hmem
      obtain ⟨f, hf⟩ : ∃ f, f = F.getD k [] := ⟨_, rfl⟩
      rw [← hf] at hcell hfl
      have hsz : (mkS f).size = f.length := mkS_size f
      have hfl' : (mkS f).size ≤ maxLen := by rw [hsz]; exact hfl
      have HF := Lib.hid (And.intro (shOkAt_at (L := L) hf) (And.intro hfl' hkm))
      have hfb : f.length ≤ 9223372036854775807 := by unfold maxLen at hfl; omega
      clear hmem hf hfl hfl'
      obtain ⟨A, hA⟩ : ∃ A, A = areLet L f := ⟨_, rfl⟩
      have hcall := fun w => impl_areLetters_any L (mkS f) w HF.out.2.1
      rw [mkS_data, ← hA] at hcall
      have HC := Lib.hid (And.intro hcall hA)
      clear hcall hA
      cases A
      · have HZ := Lib.hid (shiftOk_bad (L := L) HF.out.2.2 (by rw [HF.out.1, ← HC.out.2]; rfl))
        go_wp2_with fail
        with_reducible refine (HC.out.1 _).mono ?_
        rintro e w' ⟨rfl, rfl⟩
        go_wp2
        go_ret
        exact ⟨ret_bool HZ.out.symm, Ext.alloc _ _⟩
      by_cases h1 : f.length < 1
      · have HZ := Lib.hid (shiftOk_bad (L := L) HF.out.2.2 (by rw [HF.out.1, decide_eq_false (show ¬ 1 ≤ f.length by omega)]; simp))
        go_wp2_with fail
        with_reducible refine (HC.out.1 _).mono ?_
        rintro e w' ⟨rfl, rfl⟩
        go_wp2
        go_ret
        exact ⟨ret_bool HZ.out.symm, Ext.alloc _ _⟩
      by_cases h3 : 3 < f.length
      · have HZ := Lib.hid (shiftOk_bad (L := L) HF.out.2.2 (by rw [HF.out.1, decide_eq_false (show ¬ f.length ≤ 3 by omega)]; simp))
        go_wp2_with fail
        with_reducible refine (HC.out.1 _).mono ?_
        rintro e w' ⟨rfl, rfl⟩
        go_wp2
        go_ret
        exact ⟨ret_bool HZ.out.symm, Ext.alloc _ _⟩
      have HG := Lib.hid (show shOkAt L F k = (decide (k = 0) || lessW (F.getD (k - 1) []) f) by rw [HF.out.1, ← HC.out.2, decide_eq_true (show 1 ≤ f.length by omega), decide_eq_true (show f.length ≤ 3 by omega)]; rfl)
      by_cases hk0 : k = 0
      · subst hk0
        simp only [Nat.add_zero] at hcell
        go_wp2_with fail
        with_reducible refine (HC.out.1 _).mono ?_
        rintro e w' ⟨rfl, rfl⟩
        go_wp2
        go_round
        case rel => exact ⟨1, by omega, by go_num, fun j hj => by
          have e : j = 0 := by omega
          subst e; rw [HG.out]; rfl⟩
        case measure => simp [intOf]; omega
      · obtain ⟨j, hj⟩ : ∃ j, k = j + 1 := ⟨k - 1, by omega⟩
        have hkj : (k : Int) - 1 = (j : Int) := by omega
        have hjn : j < n := by omega
        have hk0' : 0 < k := by omega
        obtain ⟨_, _, e, hprev⟩ := HM.out.1.at j (by rw [← HM.out.2.1]; exact hjn)
        cases e
        have hcmp := mkS_less (F.getD j []) f
        obtain ⟨g, hg⟩ : ∃ g, g = F.getD j [] := ⟨_, rfl⟩
        obtain ⟨c, hcc⟩ : ∃ c, c = lessW g f := ⟨_, rfl⟩
        rw [← hg] at hprev hcmp
        rw [← hcc] at hcmp
        have HK := Lib.hid (show shOkAt L F k = c by rw [HG.out, decide_eq_false hk0, Bool.false_or, show k - 1 = j by omega, ← hg, ← hcc])
        clear hg hcc hj
        cases c
        · have HZ := Lib.hid (shiftOk_bad (L := L) HF.out.2.2 HK.out)
          go_wp2_with fail
          with_reducible refine (HC.out.1 _).mono ?_
          rintro e w' ⟨rfl, rfl⟩
          go_wp2
          go_ret
          exact ⟨ret_bool HZ.out.symm, Ext.alloc _ _⟩
        · go_wp2_with fail
          with_reducible refine (HC.out.1 _).mono ?_
          rintro e w' ⟨rfl, rfl⟩
          go_wp2
          go_round
          case rel => exact ⟨k + 1, by omega, by go_num, fun q hq => by
            by_cases e : q = k
            · subst e; exact HK.out
            · exact HP.out q (by omega)⟩
          case measure => simp [intOf]; omega
    · have hkn : k = n := by omega
      have HZ := Lib.hid ((shiftOk_all (L := L) (F := F) fun j hj => HP.out j (by rw [hkn, HM.out.2.1]; exact hj)).trans HA.out)
      go_wp2
      go_ret
      exact ⟨ret_bool HZ.out.symm, Ext.alloc _ _⟩

/-- .. by the reference, which looks at the words first -/
def shSpecAt (L : Int) (F : List (List UInt8)) (k : Nat) : Bool := (wordOk L (mkS (F.getD k [])) && (decide (1 ≤ (F.getD k []).length) && decide ((F.getD k []).length ≤ 3))) && (decide (k = 0) || lessW (F.getD (k - 1) []) (F.getD k []))
theorem shSpecAt_at {L : Int} {F : List (List UInt8)} {k : Nat} {x : List UInt8} (hx : x = F.getD k []) : shSpecAt L F k = ((wordOk L (mkS x) && (decide (1 ≤ x.length) && decide (x.length ≤ 3))) && (decide (k = 0) || lessW (F.getD (k - 1) []) x)) := by
  unfold shSpecAt
  rw [← hx]
theorem shSpecAt_ok {L : Int} {F : List (List UInt8)} (hL : 1 ≤ L ∧ L ≤ 3) (k : Nat) : shSpecAt L F k = shOkAt L F k := by
  unfold shSpecAt shOkAt wordOk
  rw [mkS_size, mkS_data, decide_eq_true hL.1, decide_eq_true hL.2]
  by_cases h : (F.getD k []).length ≤ 3
  · rw [decide_eq_true (show (F.getD k []).length ≤ 16 by omega)]
    simp
  · rw [decide_eq_false h]
    simp
theorem shSpec_bad {L : Int} {F : List (List UInt8)} {k : Nat} (hk : k < F.length) (h : shSpecAt L F k = false) : shiftOk L F = false := by
  by_cases hL : 1 ≤ L ∧ L ≤ 3
  · rw [shSpecAt_ok hL] at h
    exact shiftOk_bad hk h
  · exact shiftOk_head (.inl hL)
theorem shSpec_all {L : Int} {F : List (List UInt8)} (h : ∀ j, j < F.length → shSpecAt L F j = true) : shiftOk L F = ((decide (1 ≤ L) && decide (L ≤ 3)) && decide (F.length ≤ 8)) := by
  by_cases hL : 1 ≤ L ∧ L ≤ 3
  · exact shiftOk_all fun j hj => by rw [← shSpecAt_ok hL]; exact h j hj
  · rw [shiftOk_head (.inl hL)]
    symm
    simp
    omega

set_option maxRecDepth 100000 in
set_option maxHeartbeats 2000000 in
theorem spec_IsShift_any (L : Int) (u : Value) (F : List (List UInt8)) (w : World) (h : ReadsW w u F) (hF : ∀ f ∈ F, f.length ≤ maxLen) :
    Calls Tryd.prog 14 #[.agg #[.int .i64 L, u]] w fun e w' => e = .returned (.bool (shiftOk L F)) ∧ Ext w w' := by
  obtain ⟨pa, ca, rfl⟩ := h.slice
  obtain ⟨-, hlc, hc⟩ := h.len
  obtain ⟨n, hn⟩ : ∃ n, n = F.length := ⟨_, rfl⟩
  rw [← hn] at hlc h ⊢
  have hx := Ext.alloc w (.cells #[.int .i64 L, .slice pa n ca] 27)
  have HM := Lib.hid (And.intro (h.ext hx) (And.intro hn hF))
  clear h hn hF hx
  go_enter Tryd.func14, Tryd.ntmps14
  go_wp2
  go_loop [3, 4] (fun i _ => ∃ k : Nat, k ≤ n ∧ i = .int .i64 k ∧ ∀ j, j < k → shSpecAt L F j = true) (fun i _ => n - (intOf i).toNat)
  case atStart => exact ⟨0, by omega, rfl, fun j hj => by omega⟩
  case round =>
    obtain ⟨k, hk, rfl, hp⟩ := hrel
    have HP := Lib.hid hp
    clear hp
    by_cases hlt : k < n
    · have hkm : k < F.length := by rw [← HM.out.2.1]; exact hlt
      obtain ⟨b, o, rfl, hcell⟩ := HM.out.1.at k hkm
      have hmem : F.getD k [] ∈ F := by
        rw [List.getD_eq_getElem?_getD, List.getElem?_eq_getElem hkm]
        exact List.getElem_mem hkm
      have hfl := HM.out.2.2 _ hmem
      obtain ⟨f, hf⟩ : ∃ f, f = F.getD k [] := ⟨_, rfl⟩
      rw [← hf] at hcell hfl
      have hsz : (mkS f).size = f.length := mkS_size f
      have hfl' : (mkS f).size ≤ maxLen := by rw [hsz]; exact hfl
      have HF := Lib.hid (And.intro (shSpecAt_at (L := L) hf) (And.intro hfl' hkm))
      have hfb : f.length ≤ 9223372036854775807 := by unfold maxLen at hfl; omega
      clear hmem hf hfl hfl'
      obtain ⟨A, hA⟩ : ∃ A, A = wordOk L (mkS f) := ⟨_, rfl⟩
      have hcall := fun w => spec_IsWord_any L (mkS f) w HF.out.2.1
      rw [← hA] at hcall
      obtain ⟨E, hE⟩ : ∃ E, E = (decide ((1 : Int) ≤ (f.length : Int)) && decide ((f.length : Int) ≤ 3)) := ⟨_, rfl⟩
      have hcall2 := fun w => spec_l1In_any (f.length : Int) 1 3 w
      rw [← hE] at hcall2
      have hE' : (decide (1 ≤ f.length) && decide (f.length ≤ 3)) = E := by
        rw [hE, Bool.eq_iff_iff]
        simp
        omega
      have HC := Lib.hid (And.intro hcall (And.intro hA (And.intro hcall2 hE')))
      clear hcall hA hcall2 hE hE'
      cases A
      · have HZ := Lib.hid (shSpec_bad (L := L) HF.out.2.2 (by rw [HF.out.1, ← HC.out.2.1]; rfl))
        go_wp2_with fail
        with_reducible refine (HC.out.1 _).mono ?_
        rintro e w' ⟨rfl, rfl⟩
        go_wp2
        go_ret
        exact ⟨ret_bool HZ.out.symm, Ext.alloc _ _⟩
      cases E
      · have HZ := Lib.hid (shSpec_bad (L := L) HF.out.2.2 (by rw [HF.out.1, HC.out.2.2.2]; simp))
        go_wp2_with fail
        with_reducible refine (HC.out.1 _).mono ?_
        rintro e w' ⟨rfl, rfl⟩
        go_wp2_with fail
        with_reducible refine (HC.out.2.2.1 _).mono ?_
        rintro e w' ⟨rfl, rfl⟩
        go_wp2
        go_ret
        exact ⟨ret_bool HZ.out.symm, Ext.alloc _ _⟩
      have HG := Lib.hid (show shSpecAt L F k = (decide (k = 0) || lessW (F.getD (k - 1) []) f) by rw [HF.out.1, ← HC.out.2.1, HC.out.2.2.2]; rfl)
      by_cases hk0 : k = 0
      · subst hk0
        simp only [Nat.add_zero] at hcell
        go_wp2_with fail
        with_reducible refine (HC.out.1 _).mono ?_
        rintro e w' ⟨rfl, rfl⟩
        go_wp2_with fail
        with_reducible refine (HC.out.2.2.1 _).mono ?_
        rintro e w' ⟨rfl, rfl⟩
        go_wp2
        go_round
        case rel => exact ⟨1, by omega, by go_num, fun j hj => by
          have e : j = 0 := by omega
          subst e; rw [HG.out]; rfl⟩
        case measure => simp [intOf]; omega
      · obtain ⟨j, hj⟩ : ∃ j, k = j + 1 := ⟨k - 1, by omega⟩
        have hkj : (k : Int) - 1 = (j : Int) := by omega
        have hjn : j < n := by omega
        have hk0' : 0 < k := by omega
        obtain ⟨_, _, e, hprev⟩ := HM.out.1.at j (by rw [← HM.out.2.1]; exact hjn)
        cases e
        have hcmp := mkS_less (F.getD j []) f
        obtain ⟨g, hg⟩ : ∃ g, g = F.getD j [] := ⟨_, rfl⟩
        obtain ⟨c, hcc⟩ : ∃ c, c = lessW g f := ⟨_, rfl⟩
        rw [← hg] at hprev hcmp
        rw [← hcc] at hcmp
        have HK := Lib.hid (show shSpecAt L F k = c by rw [HG.out, decide_eq_false hk0, Bool.false_or, show k - 1 = j by omega, ← hg, ← hcc])
        clear hg hcc hj
        cases c
        · have HZ := Lib.hid (shSpec_bad (L := L) HF.out.2.2 HK.out)
          go_wp2_with fail
          with_reducible refine (HC.out.1 _).mono ?_
          rintro e w' ⟨rfl, rfl⟩
          go_wp2_with fail
          with_reducible refine (HC.out.2.2.1 _).mono ?_
          rintro e w' ⟨rfl, rfl⟩
          go_wp2
          go_ret
          exact ⟨ret_bool HZ.out.symm, Ext.alloc _ _⟩
        · go_wp2_with fail
          with_reducible refine (HC.out.1 _).mono ?_
          rintro e w' ⟨rfl, rfl⟩
          go_wp2_with fail
          with_reducible refine (HC.out.2.2.1 _).mono ?_
          rintro e w' ⟨rfl, rfl⟩
          go_wp2
          go_round
          case rel => exact ⟨k + 1, by omega, by go_num, fun q hq => by
            by_cases e : q = k
            · subst e; exact HK.out
            · exact HP.out q (by omega)⟩
          case measure => simp [intOf]; omega
    · have hkn : k = n := by omega
      have HZ := Lib.hid (shSpec_all (L := L) (F := F) fun j hj => HP.out j (by rw [hkn, HM.out.2.1]; exact hj))
      cases hb : (decide (1 ≤ L) && decide (L ≤ 3))
      · go_wp2_with fail
        with_reducible refine (spec_l1In_any _ _ _ _).mono ?_
        rintro e w' ⟨rfl, rfl⟩
        rw [hb]
        go_wp2
        go_ret
        exact ⟨ret_bool (by rw [HZ.out, hb]; rfl), Ext.alloc _ _⟩
      · have HN := Lib.hid (show decide (F.length ≤ 8) = decide (n ≤ 8) by rw [HM.out.2.1])
        go_wp2_with fail
        with_reducible refine (spec_l1In_any _ _ _ _).mono ?_
        rintro e w' ⟨rfl, rfl⟩
        rw [hb]
        go_wp2
        go_ret
        exact ⟨ret_bool (by rw [HZ.out, hb, HN.out, Bool.true_and, decide_eq_decide]; omega), Ext.alloc _ _⟩
end Go.Proofs.YtgbbidlbdjbilaaDoor
