/- Contracts: tables compared, by the program and by the reference. -/
import Derived.Test.YtihidaeecfbngaaSumA
namespace Go.Proofs.Ytihidaeecfbngaa
open Go.RowKit Go.Mx

theorem eq_of_at {α : Type} {xs ys : List α} (d : α) (hl : xs.length = ys.length) (h : ∀ i, i < xs.length → xs.getD i d = ys.getD i d) : xs = ys := by
  apply List.ext_getElem hl
  intro i h1 h2
  have := h i h1
  rwa [List.getD_eq_getElem?_getD, List.getD_eq_getElem?_getD, List.getElem?_eq_getElem h1, List.getElem?_eq_getElem h2] at this
theorem ne_at {α : Type} [DecidableEq α] {xs ys : List α} (d : α) {i : Nat} (h : ¬ xs.getD i d = ys.getD i d) : decide (xs = ys) = false := decide_eq_false fun e => h (by rw [e])
theorem ne_len {α : Type} [DecidableEq α] {xs ys : List α} (h : ¬ xs.length = ys.length) : decide (xs = ys) = false := decide_eq_false fun e => h (by rw [e])

theorem slices_Equal_any (v v' : Value) (xs ys : List Int) (w : World) (h : ReadsI w v xs) (h' : ReadsI w v' ys) :
    Calls Try.prog 109 #[v, v'] w fun e w' => e = .returned (.bool (decide (xs = ys))) ∧ Ext w w' := by
  obtain ⟨pa, ca, rfl⟩ := h.slice
  obtain ⟨pb, cb, rfl⟩ := h'.slice
  obtain ⟨-, hla1, hla2⟩ := h.len
  obtain ⟨-, hlb1, hlb2⟩ := h'.len
  by_cases hl : xs.length = ys.length
  rotate_left
  · have hne : ((xs.length : Int) != (ys.length : Int)) = true := by simp; omega
    have HN := Lib.hid (ne_len hl)
    clear hl
    go_enter Try.func109, Try.ntmps109
    go_wp2
    go_ret
    exact ⟨ret_bool HN.out.symm, Ext.refl _⟩
  obtain ⟨n, hn⟩ : ∃ n, n = xs.length := ⟨_, rfl⟩
  rw [← hl] at h' hlb1 ⊢
  rw [← hn] at h h' hla1 hlb1 ⊢
  have hne : ((n : Int) != (n : Int)) = false := by simp
  have HM := Lib.hid (And.intro h (And.intro h' (And.intro hn hl)))
  clear h h' hn hl
  go_enter Try.func109, Try.ntmps109
  go_wp2
  go_loopw [13] (fun q wr => ∃ k : Nat, k ≤ n ∧ q = .int .i64 k ∧ (∀ j, j < k → xs.getD j 0 = ys.getD j 0) ∧ Ext w wr) (fun q _ => n - (intOf q).toNat)
  case atStart => exact ⟨0, by omega, rfl, fun j hj => by omega, Ext.refl _⟩
  case round =>
    obtain ⟨k, hk, rfl, hp, hx0⟩ := hrel
    by_cases hlt : k < n
    · obtain ⟨b, o, rfl, hc1⟩ := (HM.out.1.ext hx0).at k (by rw [← HM.out.2.2.1]; exact hlt)
      obtain ⟨b2, o2, rfl, hc2⟩ := (HM.out.2.1.ext hx0).at k (by rw [← HM.out.2.2.2, ← HM.out.2.2.1]; exact hlt)
      obtain ⟨x, hx⟩ : ∃ x, x = xs.getD k 0 := ⟨_, rfl⟩
      obtain ⟨y, hy⟩ : ∃ x, x = ys.getD k 0 := ⟨_, rfl⟩
      rw [← hx] at hc1
      rw [← hy] at hc2
      have HK := Lib.hid (And.intro hp (And.intro hx hy))
      clear hp hx hy
      have hxd : ∀ j, Ext w (wr.drewN j) := fun j => hx0.drewN j
      by_cases hxy : x = y
      · subst hxy
        go_wp2
        go_quiet (fail)
        go_wp2
        go_roundw
        case rel => exact ⟨k + 1, by omega, by go_num, fun j hj => by
          by_cases e : j = k
          · subst e; rw [← HK.out.2.1, ← HK.out.2.2]
          · exact HK.out.1 j (by omega), hxd _⟩
        case measure => simp [intOf]; omega
      · have hf : (x != y) = true := by simpa using hxy
        have HE := Lib.hid (ne_at (xs := xs) (ys := ys) 0 (i := k) (by rw [← HK.out.2.1, ← HK.out.2.2]; exact hxy))
        clear hxy
        go_wp2
        go_quiet (fail)
        go_wp2
        go_ret
        exact ⟨ret_bool HE.out.symm, hxd _⟩
    · have hkn : k = n := by omega
      have he : xs = ys := eq_of_at 0 HM.out.2.2.2 (fun j hj => hp j (by rw [hkn, HM.out.2.2.1]; exact hj))
      have HE := Lib.hid (decide_eq_true he)
      clear hp he
      go_wp2
      go_ret
      exact ⟨ret_bool HE.out.symm, hx0⟩
theorem spec_l4SameRow_any (v v' : Value) (xs ys : List Int) (w : World) (h : ReadsI w v xs) (h' : ReadsI w v' ys) :
    Calls Try.prog 107 #[v, v'] w fun e w' => e = .returned (.bool (decide (xs = ys))) ∧ Ext w w' := by
  obtain ⟨pa, ca, rfl⟩ := h.slice
  obtain ⟨pb, cb, rfl⟩ := h'.slice
  obtain ⟨-, hla1, hla2⟩ := h.len
  obtain ⟨-, hlb1, hlb2⟩ := h'.len
  by_cases hl : xs.length = ys.length
  rotate_left
  · have hne : ((xs.length : Int) != (ys.length : Int)) = true := by simp; omega
    have HN := Lib.hid (ne_len hl)
    clear hl
    go_enter Try.func107, Try.ntmps107
    go_wp2
    go_ret
    exact ⟨ret_bool HN.out.symm, Ext.refl _⟩
  obtain ⟨n, hn⟩ : ∃ n, n = xs.length := ⟨_, rfl⟩
  rw [← hl] at h' hlb1 ⊢
  rw [← hn] at h h' hla1 hlb1 ⊢
  have hne : ((n : Int) != (n : Int)) = false := by simp
  have HM := Lib.hid (And.intro h (And.intro h' (And.intro hn hl)))
  clear h h' hn hl
  go_enter Try.func107, Try.ntmps107
  go_wp2
  go_loopw [5] (fun q wr => ∃ k : Nat, k ≤ n ∧ q = .int .i64 k ∧ (∀ j, j < k → xs.getD j 0 = ys.getD j 0) ∧ Ext w wr) (fun q _ => n - (intOf q).toNat)
  case atStart => exact ⟨0, by omega, rfl, fun j hj => by omega, Ext.refl _⟩
  case round =>
    obtain ⟨k, hk, rfl, hp, hx0⟩ := hrel
    by_cases hlt : k < n
    · obtain ⟨b, o, rfl, hc1⟩ := (HM.out.1.ext hx0).at k (by rw [← HM.out.2.2.1]; exact hlt)
      obtain ⟨b2, o2, rfl, hc2⟩ := (HM.out.2.1.ext hx0).at k (by rw [← HM.out.2.2.2, ← HM.out.2.2.1]; exact hlt)
      obtain ⟨x, hx⟩ : ∃ x, x = xs.getD k 0 := ⟨_, rfl⟩
      obtain ⟨y, hy⟩ : ∃ x, x = ys.getD k 0 := ⟨_, rfl⟩
      rw [← hx] at hc1
      rw [← hy] at hc2
      have HK := Lib.hid (And.intro hp (And.intro hx hy))
      clear hp hx hy
      have hxd : ∀ j, Ext w (wr.drewN j) := fun j => hx0.drewN j
      by_cases hxy : x = y
      · subst hxy
        go_wp2
        go_quiet (fail)
        go_wp2
        go_roundw
        case rel => exact ⟨k + 1, by omega, by go_num, fun j hj => by
          by_cases e : j = k
          · subst e; rw [← HK.out.2.1, ← HK.out.2.2]
          · exact HK.out.1 j (by omega), hxd _⟩
        case measure => simp [intOf]; omega
      · have hf : (x != y) = true := by simpa using hxy
        have HE := Lib.hid (ne_at (xs := xs) (ys := ys) 0 (i := k) (by rw [← HK.out.2.1, ← HK.out.2.2]; exact hxy))
        clear hxy
        go_wp2
        go_quiet (fail)
        go_wp2
        go_ret
        exact ⟨ret_bool HE.out.symm, hxd _⟩
    · have hkn : k = n := by omega
      have he : xs = ys := eq_of_at 0 HM.out.2.2.2 (fun j hj => hp j (by rw [hkn, HM.out.2.2.1]; exact hj))
      have HE := Lib.hid (decide_eq_true he)
      clear hp he
      go_wp2
      go_ret
      exact ⟨ret_bool HE.out.symm, hx0⟩

theorem equal_cf : ∀ args w, (callFunc 109 args).run Try.prog w = .ok (.enter 109 args) w := by
  intro args w
  kernel_rfl

set_option maxHeartbeats 1000000 in
theorem slices_EqualFunc_any (v v' : Value) (xs ys : List (List Int)) (w : World) (h : ReadsRows w v xs) (h' : ReadsRows w v' ys) :
    Calls Try.prog 108 #[v, v', .func (.func 109) #[] #[]] w fun e w' => e = .returned (.bool (decide (xs = ys))) ∧ Ext w w' := by
  obtain ⟨pa, ca, rfl⟩ := h.slice
  obtain ⟨pb, cb, rfl⟩ := h'.slice
  obtain ⟨-, hla1, hla2⟩ := h.len
  obtain ⟨-, hlb1, hlb2⟩ := h'.len
  by_cases hl : xs.length = ys.length
  rotate_left
  · have hne : ((xs.length : Int) != (ys.length : Int)) = true := by simp; omega
    have HN := Lib.hid (ne_len hl)
    clear hl
    go_enter Try.func108, Try.ntmps108
    go_wp2
    go_ret
    exact ⟨ret_bool HN.out.symm, Ext.refl _⟩
  obtain ⟨n, hn⟩ : ∃ n, n = xs.length := ⟨_, rfl⟩
  rw [← hl] at h' hlb1 ⊢
  rw [← hn] at h h' hla1 hlb1 ⊢
  have hne : ((n : Int) != (n : Int)) = false := by simp
  have HM := Lib.hid (And.intro h (And.intro h' (And.intro hn hl)))
  clear h h' hn hl
  have hcf := equal_cf
  go_enter Try.func108, Try.ntmps108
  go_wp2
  go_loopw [17] (fun q wr => ∃ k : Nat, k ≤ n ∧ q = .int .i64 k ∧ (∀ j, j < k → xs.getD j [] = ys.getD j []) ∧ Ext w wr) (fun q _ => n - (intOf q).toNat)
  case atStart => exact ⟨0, by omega, rfl, fun j hj => by omega, Ext.refl _⟩
  case round =>
    obtain ⟨k, hk, rfl, hp, hx0⟩ := hrel
    by_cases hlt : k < n
    · obtain ⟨b, o, a1, c1, rfl, hc1, hr1⟩ := (HM.out.1.ext hx0).at k (by rw [← HM.out.2.2.1]; exact hlt)
      obtain ⟨b2, o2, a2, c2, rfl, hc2, hr2⟩ := (HM.out.2.1.ext hx0).at k (by rw [← HM.out.2.2.2, ← HM.out.2.2.1]; exact hlt)
      obtain ⟨x, hx⟩ : ∃ x, x = xs.getD k [] := ⟨_, rfl⟩
      obtain ⟨y, hy⟩ : ∃ x, x = ys.getD k [] := ⟨_, rfl⟩
      rw [← hx] at hc1 hr1
      rw [← hy] at hc2 hr2
      have HK := Lib.hid (And.intro hp (And.intro hx (And.intro hy (And.intro hr1 hr2))))
      clear hp hx hy hr1 hr2
      go_wp2_with fail
      with_reducible refine (slices_Equal_any _ _ x y _ HK.out.2.2.2.1 HK.out.2.2.2.2).mono ?_
      rintro e w1 ⟨rfl, hx1⟩
      replace hx0 := hx0.trans hx1
      clear hx1
      by_cases hxy : x = y
      · rw [decide_eq_true hxy]
        have HE := Lib.hid hxy
        clear hxy
        go_wp2
        go_roundw
        case rel => exact ⟨k + 1, by omega, by go_num, fun j hj => by
          by_cases e : j = k
          · subst e; rw [← HK.out.2.1, ← HK.out.2.2.1]; exact HE.out
          · exact HK.out.1 j (by omega), hx0⟩
        case measure => simp [intOf]; omega
      · rw [decide_eq_false hxy]
        have HE := Lib.hid (ne_at (xs := xs) (ys := ys) [] (i := k) (by rw [← HK.out.2.1, ← HK.out.2.2.1]; exact hxy))
        clear hxy
        go_wp2
        go_ret
        exact ⟨ret_bool HE.out.symm, hx0⟩
    · have hkn : k = n := by omega
      have he : xs = ys := eq_of_at [] HM.out.2.2.2 (fun j hj => hp j (by rw [hkn, HM.out.2.2.1]; exact hj))
      have HE := Lib.hid (decide_eq_true he)
      clear hp he
      go_wp2
      go_ret
      exact ⟨ret_bool HE.out.symm, hx0⟩

theorem impl_EqualMatrix_any (v v' : Value) (xs ys : List (List Int)) (w : World) (h : ReadsRows w v xs) (h' : ReadsRows w v' ys) :
    Calls Try.prog 88 #[v, v'] w fun e w' => e = .returned (.bool (decide (xs = ys))) ∧ Ext w w' := by
  have HI := Lib.hid (slices_EqualFunc_any v v' xs ys w h h')
  go_enter Try.func88, Try.ntmps88
  go_wp2_with fail
  with_reducible refine HI.out.mono ?_
  rintro e w1 ⟨rfl, hx⟩
  go_wp2
  go_ret
  exact ⟨rfl, hx⟩

set_option maxHeartbeats 1000000 in
theorem spec_EqualMatrix_any (v v' : Value) (xs ys : List (List Int)) (w : World) (h : ReadsRows w v xs) (h' : ReadsRows w v' ys) :
    Calls Try.prog 87 #[v, v'] w fun e w' => e = .returned (.bool (decide (xs = ys))) ∧ Ext w w' := by
  obtain ⟨pa, ca, rfl⟩ := h.slice
  obtain ⟨pb, cb, rfl⟩ := h'.slice
  obtain ⟨-, hla1, hla2⟩ := h.len
  obtain ⟨-, hlb1, hlb2⟩ := h'.len
  by_cases hl : xs.length = ys.length
  rotate_left
  · have hne : ((xs.length : Int) != (ys.length : Int)) = true := by simp; omega
    have HN := Lib.hid (ne_len hl)
    clear hl
    go_enter Try.func87, Try.ntmps87
    go_wp2
    go_ret
    exact ⟨ret_bool HN.out.symm, Ext.refl _⟩
  obtain ⟨n, hn⟩ : ∃ n, n = xs.length := ⟨_, rfl⟩
  rw [← hl] at h' hlb1 ⊢
  rw [← hn] at h h' hla1 hlb1 ⊢
  have hne : ((n : Int) != (n : Int)) = false := by simp
  have HM := Lib.hid (And.intro h (And.intro h' (And.intro hn hl)))
  clear h h' hn hl
  go_enter Try.func87, Try.ntmps87
  go_wp2
  go_loopw [5] (fun q wr => ∃ k : Nat, k ≤ n ∧ q = .int .i64 k ∧ (∀ j, j < k → xs.getD j [] = ys.getD j []) ∧ Ext w wr) (fun q _ => n - (intOf q).toNat)
  case atStart => exact ⟨0, by omega, rfl, fun j hj => by omega, Ext.refl _⟩
  case round =>
    obtain ⟨k, hk, rfl, hp, hx0⟩ := hrel
    by_cases hlt : k < n
    · obtain ⟨b, o, a1, c1, rfl, hc1, hr1⟩ := (HM.out.1.ext hx0).at k (by rw [← HM.out.2.2.1]; exact hlt)
      obtain ⟨b2, o2, a2, c2, rfl, hc2, hr2⟩ := (HM.out.2.1.ext hx0).at k (by rw [← HM.out.2.2.2, ← HM.out.2.2.1]; exact hlt)
      obtain ⟨x, hx⟩ : ∃ x, x = xs.getD k [] := ⟨_, rfl⟩
      obtain ⟨y, hy⟩ : ∃ x, x = ys.getD k [] := ⟨_, rfl⟩
      rw [← hx] at hc1 hr1
      rw [← hy] at hc2 hr2
      have HK := Lib.hid (And.intro hp (And.intro hx (And.intro hy (And.intro hr1 hr2))))
      clear hp hx hy hr1 hr2
      obtain ⟨wq, rfl⟩ : ∃ wq : World, wq = wr := ⟨_, rfl⟩
      go_wp2
      refine wp_region_inv (by kernel_rfl) [.known ?hx5_6_v0, .known ?hx5_6_v1, .known ?hx5_6_v2, .known ?hx5_6_v3, .known ?hx5_6_v4, .known ?hx5_6_v5, .known ?hx5_6_v6, .known ?hx5_6_v7, .known (.bool (decide (x = y))), .known ?hx5_6_v9] rfl (by kernel_rfl) ?hx5_6_s ?hx5_6_p
      case hx5_6_s =>
        intro vs
        refine ⟨fun w' hxw hj => ?_, fun w' hxw hj => ?_, fun w' hxw hj => ?_, fun w' hxw hj => ?_, fun w' hxw hj => ?_, fun w' hxw hj => ?_, fun w' hxw hj => ?_, fun w' hxw hj => ?_, fun w' hxw hj => ?_, fun w' hxw hj => ?_, trivial⟩
        · have hc1 := Ext.cell_some hxw hc1
          have hc2 := Ext.cell_some hxw hc2
          clear hj
          go_simp
          try go_bits
          first | rfl | (rw [if_pos (by omega), if_pos (by omega)]; go_simp; rfl) | (rw [if_pos (by omega)]; go_simp; rfl) | skip
        · have hc1 := Ext.cell_some hxw hc1
          have hc2 := Ext.cell_some hxw hc2
          clear hj
          go_simp
          try go_bits
          first | rfl | (rw [if_pos (by omega), if_pos (by omega)]; go_simp; rfl) | (rw [if_pos (by omega)]; go_simp; rfl) | skip
        · have hc1 := Ext.cell_some hxw hc1
          have hc2 := Ext.cell_some hxw hc2
          clear hj
          go_simp
          try go_bits
          first | rfl | (rw [if_pos (by omega), if_pos (by omega)]; go_simp; rfl) | (rw [if_pos (by omega)]; go_simp; rfl) | skip
        · have hc1 := Ext.cell_some hxw hc1
          have hc2 := Ext.cell_some hxw hc2
          clear hj
          go_simp
          try go_bits
          first | rfl | (rw [if_pos (by omega), if_pos (by omega)]; go_simp; rfl) | (rw [if_pos (by omega)]; go_simp; rfl) | skip
        · have hc1 := Ext.cell_some hxw hc1
          have hc2 := Ext.cell_some hxw hc2
          clear hj
          go_simp
          try go_bits
          first | rfl | (rw [if_pos (by omega), if_pos (by omega)]; go_simp; rfl) | (rw [if_pos (by omega)]; go_simp; rfl) | skip
        · have hc1 := Ext.cell_some hxw hc1
          have hc2 := Ext.cell_some hxw hc2
          clear hj
          go_simp
          try go_bits
          first | rfl | (rw [if_pos (by omega), if_pos (by omega)]; go_simp; rfl) | (rw [if_pos (by omega)]; go_simp; rfl) | skip
        · have hc1 := Ext.cell_some hxw hc1
          have hc2 := Ext.cell_some hxw hc2
          clear hj
          go_simp
          try go_bits
          first | rfl | (rw [if_pos (by omega), if_pos (by omega)]; go_simp; rfl) | (rw [if_pos (by omega)]; go_simp; rfl) | skip
        · have hc1 := Ext.cell_some hxw hc1
          have hc2 := Ext.cell_some hxw hc2
          clear hj
          go_simp
          try go_bits
          first | rfl | (rw [if_pos (by omega), if_pos (by omega)]; go_simp; rfl) | (rw [if_pos (by omega)]; go_simp; rfl) | skip
        · have hc1 := Ext.cell_some hxw hc1
          have hc2 := Ext.cell_some hxw hc2
          clear hj
          go_simp
          try go_bits
          exact (spec_l4SameRow_any _ _ x y _ (ReadsI.ext HK.out.2.2.2.1 hxw) (ReadsI.ext HK.out.2.2.2.2 hxw))
        · have hc1 := Ext.cell_some hxw hc1
          have hc2 := Ext.cell_some hxw hc2
          clear hj
          go_simp
          try go_bits
          first | rfl | (rw [if_pos (by omega), if_pos (by omega)]; go_simp; rfl) | (rw [if_pos (by omega)]; go_simp; rfl) | skip
      case' hx5_6_p =>
        intro vs w5 hx5 hk
        clear hk
        replace hc1 := Ext.cell_some hx5 hc1
        replace hc2 := Ext.cell_some hx5 hc2
        replace hx0 := Ext.trans hx0 hx5
        go_simp
        clear hx5
        by_cases hxy : x = y
        · rw [decide_eq_true hxy]
          have HE := Lib.hid hxy
          clear hxy
          go_wp2
          go_roundw
          case rel => exact ⟨k + 1, by omega, by go_num, fun j hj => by
            by_cases e : j = k
            · subst e; rw [← HK.out.2.1, ← HK.out.2.2.1]; exact HE.out
            · exact HK.out.1 j (by omega), hx0⟩
          case measure => simp [intOf]; omega
        · rw [decide_eq_false hxy]
          have HE := Lib.hid (ne_at (xs := xs) (ys := ys) [] (i := k) (by rw [← HK.out.2.1, ← HK.out.2.2.1]; exact hxy))
          clear hxy
          go_wp2
          go_ret
          exact ⟨ret_bool HE.out.symm, hx0⟩
    · have hkn : k = n := by omega
      have he : xs = ys := eq_of_at [] HM.out.2.2.2 (fun j hj => hp j (by rw [hkn, HM.out.2.2.1]; exact hj))
      have HE := Lib.hid (decide_eq_true he)
      clear hp he
      go_wp2
      go_ret
      exact ⟨ret_bool HE.out.symm, hx0⟩
end Go.Proofs.Ytihidaeecfbngaa
