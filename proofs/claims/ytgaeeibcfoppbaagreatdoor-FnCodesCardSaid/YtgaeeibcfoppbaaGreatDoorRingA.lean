/- Contracts: a code on a word that goes on with itself, of both. -/
import Derived.Test.YtgaeeibcfoppbaaGreatDoorTwinA
import Derived.Test.YtgaeeibcfoppbaaGreatDoorApplyD
import Derived.Test.YtgaeeibcfoppbaaGreatDoorPkM
import Derived.Test.YtgaeeibcfoppbaaGreatDoorShelf
namespace Go.Proofs.YtgaeeibcfoppbaaGreatDoor
open Go.RowKit Go.Cm
open Go.Lib (repeatL repeatL_length repeatL_add repeatL_one)

set_option maxRecDepth 100000 in
set_option maxHeartbeats 2000000 in
theorem impl_ring_any (K n : Nat) (o s : ByteArray) (w : World) (hf : CodeFit K n o) (hs1 : 1 ≤ s.size) (hs : s.size ≤ 16) (ha : areLet K s.data.toList = true) :
    Calls Tryz.prog 37 #[.agg #[.int .i64 K, .int .i64 n, .string o], .string s] w fun e w' => e = .returned (.string (mkS (ringL K n o s.data.toList))) ∧ Ext w w' := by
  have hn1 := hf.n1
  have hn4 := hf.n4
  have hul : s.data.toList.length = s.size := by simp
  obtain ⟨T, hT⟩ : ∃ T, T = s.size + n - 1 := ⟨_, rfl⟩
  have hTi : (s.size : Int) + (n : Int) - 1 = (T : Int) := by omega
  have hT19 : T ≤ 19 := by omega
  obtain ⟨R, hR⟩ : ∃ R, R = mkS (repeatL s.data.toList n) := ⟨_, rfl⟩
  have hRs : R.size = n * s.size := by rw [hR, mkS_size, repeatL_length, hul]
  have hfit := ring_fits (n := n) (u := s.data.toList) hn1 (by omega)
  rw [hul, ← hT, ← hRs] at hfit
  have hrep : ∀ w, Calls Tryz.prog 61 #[.string s, .int .i64 n] w fun e w' => e = .returned (.string R) ∧ Ext w w' := by
    intro w
    have hb : s.size * n ≤ 16 * 4 := Nat.mul_le_mul hs hn4
    rw [hR]
    exact Tryz.strings_Repeat s n w (by omega) (by omega)
  have hring : R.extract 0 T = mkS (ringW n s.data.toList) := by
    rw [hR, mkS_take]
    unfold ringW
    rw [hul, hT]
  have hrl := ringW_length (n := n) (u := s.data.toList) hn1 (by omega)
  have happ : ∀ w, Calls Tryz.prog 29 #[.agg #[.int .i64 K, .int .i64 n, .string o], .string (mkS (ringW n s.data.toList))] w fun e w' => e = .returned (.string (mkS (ringL K n o s.data.toList))) ∧ Ext w w' := by
    intro w
    have h := impl_apply_any K n o (mkS (ringW n s.data.toList)) w hf (by rw [mkS_size]; omega) (by rw [mkS_data]; exact areLet_ring ha n)
    rw [mkS_data] at h
    exact h
  obtain ⟨Q, hQ⟩ : ∃ Q, Q = mkS (ringW n s.data.toList) := ⟨_, rfl⟩
  rw [← hQ] at hring happ
  have HR := Lib.hid (And.intro hrep happ)
  have bo : Blk (w.alloc (.cells #[.int .i64 K, .int .i64 n, .string o] 25)) w.heap.size #[.int .i64 K, .int .i64 n, .string o] := by (repeat (first | (refine Blk.mk' ?_; (simp; done)) | apply Blk.old))
  have hx : Ext w (w.alloc (.cells #[.int .i64 K, .int .i64 n, .string o] 25)) := Ext.alloc _ _
  obtain ⟨c0, c1, c2, -, -, -⟩ := bo.c3
  clear hT hR hRs hrep hrl happ hQ hul
  go_enter Tryz.func37, Tryz.ntmps37
  go_wp2
  refine wp_region_inv (by kernel_rfl) (.known ?hx5_5_v0 :: .known ?hx5_5_v1 :: .known ?hx5_5_v2 :: .known ?hx5_5_v3 :: .known (.string R) :: .known ?hx5_5_v5 :: .known ?hx5_5_v6 :: .known ?hx5_5_v7 :: .known ?hx5_5_v8 :: .known ?hx5_5_v9 :: .known ?hx5_5_v10 :: .known ?hx5_5_v11 :: .known (.string (mkS (ringL K n o s.data.toList))) :: .known ?hx5_5_v13 :: []) rfl (by kernel_rfl) ?hx5_5_s ?hx5_5_p
  case hx5_5_s =>
    intro vs
    refine ⟨fun w' hxw hj => ?_, fun w' hxw hj => ?_, fun w' hxw hj => ?_, fun w' hxw hj => ?_, fun w' hxw hj => ?_, fun w' hxw hj => ?_, fun w' hxw hj => ?_, fun w' hxw hj => ?_, fun w' hxw hj => ?_, fun w' hxw hj => ?_, fun w' hxw hj => ?_, fun w' hxw hj => ?_, fun w' hxw hj => ?_, fun w' hxw hj => ?_, trivial⟩
    · have c0 := Ext.cell_some hxw c0
      have c1 := Ext.cell_some hxw c1
      have c2 := Ext.cell_some hxw c2
      clear hj
      go_simp
      try go_bits
      first | rfl | (rw [if_pos (by omega), if_pos (by omega)]; go_simp; rfl) | (rw [if_pos (by omega)]; go_simp; rfl) | skip
    · have c0 := Ext.cell_some hxw c0
      have c1 := Ext.cell_some hxw c1
      have c2 := Ext.cell_some hxw c2
      clear hj
      go_simp
      try go_bits
      first | rfl | (rw [if_pos (by omega), if_pos (by omega)]; go_simp; rfl) | (rw [if_pos (by omega)]; go_simp; rfl) | skip
    · have c0 := Ext.cell_some hxw c0
      have c1 := Ext.cell_some hxw c1
      have c2 := Ext.cell_some hxw c2
      clear hj
      go_simp
      try go_bits
      first | rfl | (rw [if_pos (by omega), if_pos (by omega)]; go_simp; rfl) | (rw [if_pos (by omega)]; go_simp; rfl) | skip
    · have c0 := Ext.cell_some hxw c0
      have c1 := Ext.cell_some hxw c1
      have c2 := Ext.cell_some hxw c2
      clear hj
      go_simp
      try go_bits
      first | rfl | (rw [if_pos (by omega), if_pos (by omega)]; go_simp; rfl) | (rw [if_pos (by omega)]; go_simp; rfl) | skip
    · have c0 := Ext.cell_some hxw c0
      have c1 := Ext.cell_some hxw c1
      have c2 := Ext.cell_some hxw c2
      clear hj
      go_simp
      try go_bits
      exact HR.out.1 _
    · have c0 := Ext.cell_some hxw c0
      have c1 := Ext.cell_some hxw c1
      have c2 := Ext.cell_some hxw c2
      clear hj
      go_simp
      try go_bits
      first | rfl | (rw [if_pos (by omega), if_pos (by omega)]; go_simp; rfl) | (rw [if_pos (by omega)]; go_simp; rfl) | skip
    · have c0 := Ext.cell_some hxw c0
      have c1 := Ext.cell_some hxw c1
      have c2 := Ext.cell_some hxw c2
      clear hj
      go_simp
      try go_bits
      first | rfl | (rw [if_pos (by omega), if_pos (by omega)]; go_simp; rfl) | (rw [if_pos (by omega)]; go_simp; rfl) | skip
    · have c0 := Ext.cell_some hxw c0
      have c1 := Ext.cell_some hxw c1
      have c2 := Ext.cell_some hxw c2
      clear hj
      go_simp
      try go_bits
      first | rfl | (rw [if_pos (by omega), if_pos (by omega)]; go_simp; rfl) | (rw [if_pos (by omega)]; go_simp; rfl) | skip
    · have c0 := Ext.cell_some hxw c0
      have c1 := Ext.cell_some hxw c1
      have c2 := Ext.cell_some hxw c2
      clear hj
      go_simp
      try go_bits
      first | rfl | (rw [if_pos (by omega), if_pos (by omega)]; go_simp; rfl) | (rw [if_pos (by omega)]; go_simp; rfl) | skip
    · have c0 := Ext.cell_some hxw c0
      have c1 := Ext.cell_some hxw c1
      have c2 := Ext.cell_some hxw c2
      clear hj
      go_simp
      try go_bits
      first | rfl | (rw [if_pos (by omega), if_pos (by omega)]; go_simp; rfl) | (rw [if_pos (by omega)]; go_simp; rfl) | skip
    · have c0 := Ext.cell_some hxw c0
      have c1 := Ext.cell_some hxw c1
      have c2 := Ext.cell_some hxw c2
      clear hj
      go_simp
      try go_bits
      first | rfl | (rw [if_pos (by omega), if_pos (by omega)]; go_simp; rfl) | (rw [if_pos (by omega)]; go_simp; rfl) | skip
    · have c0 := Ext.cell_some hxw c0
      have c1 := Ext.cell_some hxw c1
      have c2 := Ext.cell_some hxw c2
      clear hj
      go_simp
      try go_bits
      first | rfl | (rw [if_pos (by omega), if_pos (by omega)]; go_simp; rfl) | (rw [if_pos (by omega)]; go_simp; rfl) | skip
    · have c0 := Ext.cell_some hxw c0
      have c1 := Ext.cell_some hxw c1
      have c2 := Ext.cell_some hxw c2
      clear hj
      go_simp
      try go_bits
      exact HR.out.2 _
    · have c0 := Ext.cell_some hxw c0
      have c1 := Ext.cell_some hxw c1
      have c2 := Ext.cell_some hxw c2
      clear hj
      go_simp
      try go_bits
      first | rfl | (rw [if_pos (by omega), if_pos (by omega)]; go_simp; rfl) | (rw [if_pos (by omega)]; go_simp; rfl) | skip
  case' hx5_5_p =>
    intro vs w5 hx5 hk
    clear hk
    replace c0 := Ext.cell_some hx5 c0
    replace c1 := Ext.cell_some hx5 c1
    replace c2 := Ext.cell_some hx5 c2
    replace hx := Ext.trans hx hx5
    go_simp
    clear hx5 c0 c1 c2
    go_wp2
    go_ret
    exact ⟨rfl, hx⟩

/-- how long a text is -/
def szOf : Value → Nat
  | .string s => s.size
  | _ => 0

set_option maxRecDepth 100000 in
set_option maxHeartbeats 2000000 in
theorem spec_ApplyRing_yes (K n : Nat) (o s : ByteArray) (w : World) (hcd : codeOk K n o = true) (hf : CodeFit K n o) (hw : wordOk K s = true) (hs1 : 1 ≤ s.size) :
    Calls Tryz.prog 13 #[.agg #[.int .i64 K, .int .i64 n, .string o], .string s] w fun e w' => e = .returned (.tuple #[.string (mkS (ringL K n o s.data.toList)), .bool true]) ∧ Ext w w' := by
  have hn1 := hf.n1
  have hn4 := hf.n4
  have ho : o.size ≤ maxLen := by have := hf.size; have := hf.le; unfold maxLen; omega
  obtain ⟨hs, ha⟩ := wordOk_parts hw
  have hsm : s.size ≤ maxLen := by unfold maxLen; omega
  have hul : s.data.toList.length = s.size := by simp
  obtain ⟨T, hT⟩ : ∃ T, T = s.size + n - 1 := ⟨_, rfl⟩
  have hTi : (s.size : Int) + (n : Int) - 1 = (T : Int) := by omega
  have hT19 : T ≤ 19 := by omega
  have hTs : s.size ≤ T := by omega
  have hrl := ringW_length (n := n) (u := s.data.toList) hn1 (by omega)
  have happ : ∀ w, Calls Tryz.prog 33 #[.agg #[.int .i64 K, .int .i64 n, .string o], .string (mkS (ringW n s.data.toList))] w fun e w' => e = .returned (.string (mkS (ringL K n o s.data.toList))) ∧ Ext w w' := by
    intro w
    have h := spec_l11Apply_any K n o (mkS (ringW n s.data.toList)) w hf (by rw [mkS_size]; omega) (by rw [mkS_data]; exact areLet_ring ha n)
    rw [mkS_data] at h
    exact h
  obtain ⟨Q, hQ⟩ : ∃ Q, Q = mkS (ringW n s.data.toList) := ⟨_, rfl⟩
  rw [← hQ] at happ
  have HR := Lib.hid (And.intro happ (And.intro hQ (And.intro hT hul)))
  have HC := Lib.hid (And.intro hcd hw)
  have hne : (s.toList == []) = false := by
    have h : ¬ s.toList = [] := by
      rw [ByteArray.toList_eq]
      intro h
      have : s.data.toList.length = 0 := by rw [h]; rfl
      omega
    simp [h]
  have hne2 : s.toList.isEmpty = false := by simpa using hne
  clear hT hrl happ hQ hul hcd hw
  go_enter Tryz.func13, Tryz.ntmps13
  go_wp2_with fail
  with_reducible refine (spec_IsCode_any _ _ _ _ ho).mono ?_
  rintro e w1 ⟨rfl, hx⟩
  rw [HC.out.1]
  have bo := (show Blk _ w.heap.size #[.int .i64 K, .int .i64 n, .string o] by (repeat (first | (refine Blk.mk' ?_; (simp; done)) | apply Blk.old))).ext hx
  replace hx : Ext w w1 := Ext.trans (by (repeat (first | exact (Ext.refl w) | exact Ext.refl _ | exact Ext.alloc _ _ | refine Ext.alloced ?_ _ | (refine Ext.stored ?_ ?_; rotate_left; (· (first | (show _ ≤ _; omega) | (simp; done) | (simp; omega))))))) hx
  obtain ⟨c0, c1, c2, -, -, -⟩ := bo.c3
  go_wp2_with fail
  with_reducible refine (spec_IsWord_any _ _ _ hsm).mono ?_
  rintro e w2 ⟨rfl, rfl⟩
  rw [HC.out.2]
  go_wp2
  go_loop [6] (fun x => ∃ a : Nat, 1 ≤ a ∧ a ≤ n ∧ x = .string (mkS (repeatL s.data.toList a))) (fun x => T - szOf x)
  case atStart => exact ⟨1, by omega, by omega, by rw [repeatL_one, mkS_data_self]⟩
  case round =>
    obtain ⟨a, ha1, han, rfl⟩ := hrel
    have hl : (mkS (repeatL s.data.toList a)).size = a * s.size := by rw [mkS_size, repeatL_length, HR.out.2.2.2]
    have hcat : mkS (repeatL s.data.toList a) ++ s = mkS (repeatL s.data.toList (a + 1)) := by
      have h := mkS_append (repeatL s.data.toList a) s.data.toList
      rw [mkS_data_self] at h
      rw [h, repeatL_add, repeatL_one]
    have hb : a * s.size ≤ 4 * 16 := Nat.mul_le_mul (by omega) hs
    have hl1 : (mkS (repeatL s.data.toList (a + 1))).size = a * s.size + s.size := by rw [mkS_size, repeatL_length, HR.out.2.2.2, Nat.succ_mul]
    have hring : T ≤ (mkS (repeatL s.data.toList a)).size → (mkS (repeatL s.data.toList a)).extract 0 T = Q := by
      intro h
      rw [HR.out.2.1, mkS_take, ← ringW_of (a := a) hn1 (by rw [HR.out.2.2.2]; exact hs1) (by rw [HR.out.2.2.2, ← HR.out.2.2.1, ← mkS_size]; exact h), HR.out.2.2.2, HR.out.2.2.1]
    have hfit := ring_fits (n := n) (u := s.data.toList) hn1 (by rw [HR.out.2.2.2]; exact hs1)
    rw [HR.out.2.2.2, ← HR.out.2.2.1] at hfit
    obtain ⟨X, hX⟩ : ∃ X, X = mkS (repeatL s.data.toList a) := ⟨_, rfl⟩
    rw [← hX] at hl hcat hring ⊢
    have hXb : X.size ≤ 64 := by omega
    have HX := Lib.hid (And.intro hl (And.intro hl1 (And.intro hring hfit)))
    clear hl hl1 hring hfit hX hb
    by_cases hlt : X.size < T
    · have hp1 : ¬ 9223372036854775807 < X.size + s.size := by omega
      go_wp2
      go_round
      case rel => exact ⟨a + 1, by omega, by
        apply Classical.byContradiction
        intro h
        have hh : a = n := by omega
        have h1 := HX.out
        rw [hh] at h1
        omega, rfl⟩
      case measure =>
        have h1 := HX.out
        simp only [szOf]
        omega
    · have hex := HX.out.2.2.1 (by omega)
      have hTX : T ≤ X.size := by omega
      go_wp2
      refine wp_region_inv (by kernel_rfl) (.known ?hx5_6_v0 :: .known ?hx5_6_v1 :: .known ?hx5_6_v2 :: .known ?hx5_6_v3 :: .known ?hx5_6_v4 :: .known ?hx5_6_v5 :: .known ?hx5_6_v6 :: .known ?hx5_6_v7 :: .known ?hx5_6_v8 :: .known (.string (mkS (ringL K n o s.data.toList))) :: .known ?hx5_6_v10 :: .known ?hx5_6_v11 :: []) rfl (by kernel_rfl) ?hx5_6_s ?hx5_6_p
      case hx5_6_s =>
        intro vs
        refine ⟨fun w' hxw hj => ?_, fun w' hxw hj => ?_, fun w' hxw hj => ?_, fun w' hxw hj => ?_, fun w' hxw hj => ?_, fun w' hxw hj => ?_, fun w' hxw hj => ?_, fun w' hxw hj => ?_, fun w' hxw hj => ?_, fun w' hxw hj => ?_, fun w' hxw hj => ?_, fun w' hxw hj => ?_, trivial⟩
        · have c0 := Ext.cell_some hxw c0
          have c1 := Ext.cell_some hxw c1
          have c2 := Ext.cell_some hxw c2
          clear hj
          go_simp
          try go_bits
          first | rfl | (rw [if_pos (by omega), if_pos (by omega)]; go_simp; rfl) | (rw [if_pos (by omega)]; go_simp; rfl) | skip
        · have c0 := Ext.cell_some hxw c0
          have c1 := Ext.cell_some hxw c1
          have c2 := Ext.cell_some hxw c2
          clear hj
          go_simp
          try go_bits
          first | rfl | (rw [if_pos (by omega), if_pos (by omega)]; go_simp; rfl) | (rw [if_pos (by omega)]; go_simp; rfl) | skip
        · have c0 := Ext.cell_some hxw c0
          have c1 := Ext.cell_some hxw c1
          have c2 := Ext.cell_some hxw c2
          clear hj
          go_simp
          try go_bits
          first | rfl | (rw [if_pos (by omega), if_pos (by omega)]; go_simp; rfl) | (rw [if_pos (by omega)]; go_simp; rfl) | skip
        · have c0 := Ext.cell_some hxw c0
          have c1 := Ext.cell_some hxw c1
          have c2 := Ext.cell_some hxw c2
          clear hj
          go_simp
          try go_bits
          first | rfl | (rw [if_pos (by omega), if_pos (by omega)]; go_simp; rfl) | (rw [if_pos (by omega)]; go_simp; rfl) | skip
        · have c0 := Ext.cell_some hxw c0
          have c1 := Ext.cell_some hxw c1
          have c2 := Ext.cell_some hxw c2
          clear hj
          go_simp
          try go_bits
          first | rfl | (rw [if_pos (by omega), if_pos (by omega)]; go_simp; rfl) | (rw [if_pos (by omega)]; go_simp; rfl) | skip
        · have c0 := Ext.cell_some hxw c0
          have c1 := Ext.cell_some hxw c1
          have c2 := Ext.cell_some hxw c2
          clear hj
          go_simp
          try go_bits
          first | rfl | (rw [if_pos (by omega), if_pos (by omega)]; go_simp; rfl) | (rw [if_pos (by omega)]; go_simp; rfl) | skip
        · have c0 := Ext.cell_some hxw c0
          have c1 := Ext.cell_some hxw c1
          have c2 := Ext.cell_some hxw c2
          clear hj
          go_simp
          try go_bits
          first | rfl | (rw [if_pos (by omega), if_pos (by omega)]; go_simp; rfl) | (rw [if_pos (by omega)]; go_simp; rfl) | skip
        · have c0 := Ext.cell_some hxw c0
          have c1 := Ext.cell_some hxw c1
          have c2 := Ext.cell_some hxw c2
          clear hj
          go_simp
          try go_bits
          first | rfl | (rw [if_pos (by omega), if_pos (by omega)]; go_simp; rfl) | (rw [if_pos (by omega)]; go_simp; rfl) | skip
        · have c0 := Ext.cell_some hxw c0
          have c1 := Ext.cell_some hxw c1
          have c2 := Ext.cell_some hxw c2
          clear hj
          go_simp
          try go_bits
          first | rfl | (rw [if_pos (by omega), if_pos (by omega)]; go_simp; rfl) | (rw [if_pos (by omega)]; go_simp; rfl) | skip
        · have c0 := Ext.cell_some hxw c0
          have c1 := Ext.cell_some hxw c1
          have c2 := Ext.cell_some hxw c2
          clear hj
          go_simp
          try go_bits
          exact HR.out.1 _
        · have c0 := Ext.cell_some hxw c0
          have c1 := Ext.cell_some hxw c1
          have c2 := Ext.cell_some hxw c2
          clear hj
          go_simp
          try go_bits
          first | rfl | (rw [if_pos (by omega), if_pos (by omega)]; go_simp; rfl) | (rw [if_pos (by omega)]; go_simp; rfl) | skip
        · have c0 := Ext.cell_some hxw c0
          have c1 := Ext.cell_some hxw c1
          have c2 := Ext.cell_some hxw c2
          clear hj
          go_simp
          try go_bits
          first | rfl | (rw [if_pos (by omega), if_pos (by omega)]; go_simp; rfl) | (rw [if_pos (by omega)]; go_simp; rfl) | skip
      case' hx5_6_p =>
        intro vs w5 hx5 hk
        clear hk
        replace c0 := Ext.cell_some hx5 c0
        replace c1 := Ext.cell_some hx5 c1
        replace c2 := Ext.cell_some hx5 c2
        replace hx := Ext.trans hx hx5
        go_simp
        clear hx5 c0 c1 c2
        go_wp2
        go_ret2
        exact ⟨rfl, hx⟩
end Go.Proofs.YtgaeeibcfoppbaaGreatDoor
