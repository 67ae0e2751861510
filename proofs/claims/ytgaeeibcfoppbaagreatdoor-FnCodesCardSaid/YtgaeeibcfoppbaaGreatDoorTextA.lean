/- Contracts: a numeral of one digit, and the text of a code. -/
import Derived.Test.YtgaeeibcfoppbaaGreatDoorPkC
import Derived.Test.YtgaeeibcfoppbaaGreatDoorPkM
import Derived.Test.YtgaeeibcfoppbaaGreatDoorShelf
namespace Go.Proofs.YtgaeeibcfoppbaaGreatDoor
open Go.RowKit Go.Cm

/-- the numeral of a digit -/
def digS (i : Nat) : ByteArray := ⟨#[UInt8.ofNat (48 + i)]⟩
theorem digS_size (i : Nat) : (digS i).size = 1 := rfl

theorem dig_convert {w : World} {v : Value} {i : Nat} (hi : i < 10) (h : BoxOf (.int .u8 (48 + (i : Int))) v w) : (convert 22 9 v).run Tryz.prog w = .ok (.string (digS i)) w := by
  obtain ⟨b, rfl, hc⟩ := h
  unfold digS
  have hl3 : ((UInt8.ofNat (48 + i)).toNat : Int) = 48 + i := by
    have : (UInt8.ofNat (48 + i)).toNat = (48 + i) % 256 := rfl
    omega
  obtain ⟨c, hcc⟩ : ∃ c, c = UInt8.ofNat (48 + i) := ⟨_, rfl⟩
  rw [← hcc] at hl3 ⊢
  refine run_convert_bytes_back w _ _ 5 ⟨b, 0, none⟩ 1 [c] Tryz.underlying22 Tryz.underlying5 Tryz.underlying9 fun j hj => ?_
  have hj0 : j = 0 := by simp at hj; omega
  subst hj0
  simpa [Addr.add, hl3] using hc

theorem impl_FormatInt_dig (i : Nat) (w : World) (_ : 1 ≤ i) (hi : i < 10) :
    Calls Tryz.prog 50 #[.int .i64 i] w fun e w' => e = .returned (.string (digS i)) ∧ Ext w w' := by
  have hd : (⟨(Lib.decDigits i).toArray⟩ : ByteArray) = digS i := by
    rw [Lib.decDigits, dif_pos hi]
    rfl
  have hcall := fun w => Tryz.strconv_Itoa_small i (by omega) w
  rw [hd] at hcall
  have HC := Lib.hid hcall
  clear hcall hd
  go_enter Tryz.func50, Tryz.ntmps50
  go_wp2_with fail
  with_reducible refine (HC.out _).mono ?_
  rintro e w1 ⟨rfl, rfl⟩
  go_wp2
  go_ret
  exact ⟨rfl, Ext.refl _⟩

set_option maxRecDepth 100000 in
set_option maxHeartbeats 1000000 in
theorem spec_FormatInt_dig (i : Nat) (w : World) (h1 : 1 ≤ i) (hi : i < 10) :
    Calls Tryz.prog 51 #[.int .i64 i] w fun e w' => e = .returned (.string (digS i)) ∧ Ext w w' := by
  have hm : (i : Int) % 10 = (i : Int) := by omega
  have hd : (i : Int) / 10 = 0 := by omega
  have hcat : digS i ++ ⟨#[]⟩ = digS i := by rfl
  have hds : (digS i).size = 1 := rfl
  have hb : ((i : Int) == 0) = false := by simp; omega
  have hneg : decide ((i : Int) < 0) = false := by simp
  go_enter Tryz.func51, Tryz.ntmps51
  go_wp2
  go_loopw [0, 4] (fun n t wr => (n = .int .i64 i ∧ t = .string ⟨#[]⟩ ∨ n = .int .i64 0 ∧ t = .string (digS i)) ∧ Ext w wr) (fun n _ _ => (intOf n).toNat)
  case atStart => exact ⟨.inl ⟨rfl, rfl⟩, Ext.refl _⟩
  case round =>
    obtain ⟨hor, hx⟩ := hrel
    rcases hor with ⟨rfl, rfl⟩ | ⟨rfl, rfl⟩
    · have hcv := dig_convert (w := wr.alloc (.cells #[.int .u8 (48 + (i : Int))] 5)) (v := .slice (some ⟨wr.heap.size, 0, none⟩) 1 1) hi ⟨_, rfl, by simp⟩
      go_wp2
      go_roundw
      case rel => exact ⟨.inr ⟨rfl, rfl⟩, Ext.trans hx (Ext.alloc _ _)⟩
      case measure => simp [intOf]; omega
    · go_wp2
      go_ret
      exact ⟨rfl, hx⟩

/-- the text of a code -/
def codeT (K n : Nat) (o : ByteArray) : ByteArray := digS K ++ ⟨#[32]⟩ ++ digS n ++ ⟨#[32]⟩ ++ o


set_option maxHeartbeats 1000000 in
theorem impl_CodeText_no (L W : Int) (o : ByteArray) (w : World) (ho : o.size ≤ maxLen) (h : codeOk L W o = false) :
    Calls Tryz.prog 23 #[.agg #[.int .i64 L, .int .i64 W, .string o]] w fun e w' => e = .returned (.string ⟨#[]⟩) ∧ Ext w w' := by
  go_enter Tryz.func23, Tryz.ntmps23
  go_wp2_with fail
  with_reducible refine (impl_IsCode_any _ _ _ _ ho).mono ?_
  rintro e w1 ⟨rfl, hx⟩
  rw [h]
  replace hx := (Ext.alloc _ _).trans hx
  go_wp2
  go_ret
  exact ⟨rfl, hx⟩

set_option maxHeartbeats 1000000 in
theorem impl_CodeText_yes (K n : Nat) (o : ByteArray) (w : World) (h : codeOk K n o = true) (h1 : 1 ≤ K) (h2 : K < 10) (h3 : 1 ≤ n) (h4 : n < 10) (ho27 : o.size ≤ 27) :
    Calls Tryz.prog 23 #[.agg #[.int .i64 K, .int .i64 n, .string o]] w fun e w' => e = .returned (.string (codeT K n o)) ∧ Ext w w' := by
  have ho : o.size ≤ maxLen := by unfold maxLen; omega
  have hK := fun w => impl_FormatInt_dig K w h1 h2
  have hn := fun w => impl_FormatInt_dig n w h3 h4
  unfold codeT
  obtain ⟨D, hD⟩ : ∃ D, D = digS K := ⟨_, rfl⟩
  obtain ⟨E, hE⟩ : ∃ E, E = digS n := ⟨_, rfl⟩
  rw [← hD] at hK ⊢
  rw [← hE] at hn ⊢
  have hDs : D.size = 1 := by rw [hD]; rfl
  have hEs : E.size = 1 := by rw [hE]; rfl
  have hsp : (⟨#[32]⟩ : ByteArray).size = 1 := rfl
  obtain ⟨A1, hA1⟩ : ∃ A1, A1 = D ++ ⟨#[32]⟩ := ⟨_, rfl⟩
  have hs1 : A1.size = 2 := by rw [hA1, ByteArray.size_append, hDs, hsp]
  obtain ⟨A2, hA2⟩ : ∃ A2, A2 = A1 ++ E := ⟨_, rfl⟩
  have hs2 : A2.size = 3 := by rw [hA2, ByteArray.size_append, hs1, hEs]
  obtain ⟨A3, hA3⟩ : ∃ A3, A3 = A2 ++ ⟨#[32]⟩ := ⟨_, rfl⟩
  have hs3 : A3.size = 4 := by rw [hA3, ByteArray.size_append, hs2, hsp]
  rw [← hA1, ← hA2, ← hA3]
  replace hA1 := hA1.symm
  replace hA2 := hA2.symm
  replace hA3 := hA3.symm
  have hp4 : ¬ 9223372036854775807 < 4 + o.size := by omega
  have HK := Lib.hid (And.intro hK hn)
  clear hK hn hD hE
  go_enter Tryz.func23, Tryz.ntmps23
  go_wp2_with fail
  with_reducible refine (impl_IsCode_any _ _ _ _ ho).mono ?_
  rintro e w1 ⟨rfl, hx⟩
  rw [h]
  have c0 : w1.cell? ⟨w.heap.size, 0, none⟩ = some (.int .i64 K) := hx.cell_some (by simp)
  have c1 : w1.cell? ⟨w.heap.size, 1, none⟩ = some (.int .i64 n) := hx.cell_some (by simp)
  have c2 : w1.cell? ⟨w.heap.size, 2, none⟩ = some (.string o) := hx.cell_some (by simp)
  replace hx := (Ext.alloc _ _).trans hx
  go_wp2
  refine wp_region_inv (by kernel_rfl) (.known ?hx6_2_v0 :: .known ?hx6_2_v1 :: .known (.string D) :: .known ?hx6_2_v3 :: .known ?hx6_2_v4 :: .known ?hx6_2_v5 :: .known (.string E) :: .known ?hx6_2_v7 :: .known ?hx6_2_v8 :: .known ?hx6_2_v9 :: .known ?hx6_2_v10 :: .known ?hx6_2_v11 :: .known ?hx6_2_v12 :: []) rfl (by kernel_rfl) ?hx6_2_s ?hx6_2_p
  case hx6_2_s =>
    intro vs
    refine ⟨fun w' hxw hj => ?_, fun w' hxw hj => ?_, fun w' hxw hj => ?_, fun w' hxw hj => ?_, fun w' hxw hj => ?_, fun w' hxw hj => ?_, fun w' hxw hj => ?_, fun w' hxw hj => ?_, fun w' hxw hj => ?_, fun w' hxw hj => ?_, fun w' hxw hj => ?_, fun w' hxw hj => ?_, fun w' hxw hj => ?_, trivial⟩
    · have c0 := Ext.cell_some hxw c0
      have c1 := Ext.cell_some hxw c1
      have c2 := Ext.cell_some hxw c2
      clear hj
      go_simp
      try go_bits
      first | rfl | (rw [if_pos (by omega), if_pos (by omega)]; go_simp; rfl) | (rw [if_pos (by omega)]; go_simp; rfl) | skip
    · have c0 := Ext.cell_some hxw c0
      have c1 := Ext.cell_some hxw c1
      have c2 := Ext.cell_some hxw c2
      clear hj
      go_simp
      try go_bits
      first | rfl | (rw [if_pos (by omega), if_pos (by omega)]; go_simp; rfl) | (rw [if_pos (by omega)]; go_simp; rfl) | skip
    · have c0 := Ext.cell_some hxw c0
      have c1 := Ext.cell_some hxw c1
      have c2 := Ext.cell_some hxw c2
      clear hj
      go_simp
      try go_bits
      exact HK.out.1 _
    · have c0 := Ext.cell_some hxw c0
      have c1 := Ext.cell_some hxw c1
      have c2 := Ext.cell_some hxw c2
      clear hj
      go_simp
      try go_bits
      first | rfl | (rw [if_pos (by omega), if_pos (by omega)]; go_simp; rfl) | (rw [if_pos (by omega)]; go_simp; rfl) | skip
    · have c0 := Ext.cell_some hxw c0
      have c1 := Ext.cell_some hxw c1
      have c2 := Ext.cell_some hxw c2
      clear hj
      go_simp
      try go_bits
      first | rfl | (rw [if_pos (by omega), if_pos (by omega)]; go_simp; rfl) | (rw [if_pos (by omega)]; go_simp; rfl) | skip
    · have c0 := Ext.cell_some hxw c0
      have c1 := Ext.cell_some hxw c1
      have c2 := Ext.cell_some hxw c2
      clear hj
      go_simp
      try go_bits
      first | rfl | (rw [if_pos (by omega), if_pos (by omega)]; go_simp; rfl) | (rw [if_pos (by omega)]; go_simp; rfl) | skip
    · have c0 := Ext.cell_some hxw c0
      have c1 := Ext.cell_some hxw c1
      have c2 := Ext.cell_some hxw c2
      clear hj
      go_simp
      try go_bits
      exact HK.out.2 _
    · have c0 := Ext.cell_some hxw c0
      have c1 := Ext.cell_some hxw c1
      have c2 := Ext.cell_some hxw c2
      clear hj
      go_simp
      try go_bits
      first | rfl | (rw [if_pos (by omega), if_pos (by omega)]; go_simp; rfl) | (rw [if_pos (by omega)]; go_simp; rfl) | skip
    · have c0 := Ext.cell_some hxw c0
      have c1 := Ext.cell_some hxw c1
      have c2 := Ext.cell_some hxw c2
      clear hj
      go_simp
      try go_bits
      first | rfl | (rw [if_pos (by omega), if_pos (by omega)]; go_simp; rfl) | (rw [if_pos (by omega)]; go_simp; rfl) | skip
    · have c0 := Ext.cell_some hxw c0
      have c1 := Ext.cell_some hxw c1
      have c2 := Ext.cell_some hxw c2
      clear hj
      go_simp
      try go_bits
      first | rfl | (rw [if_pos (by omega), if_pos (by omega)]; go_simp; rfl) | (rw [if_pos (by omega)]; go_simp; rfl) | skip
    · have c0 := Ext.cell_some hxw c0
      have c1 := Ext.cell_some hxw c1
      have c2 := Ext.cell_some hxw c2
      clear hj
      go_simp
      try go_bits
      first | rfl | (rw [if_pos (by omega), if_pos (by omega)]; go_simp; rfl) | (rw [if_pos (by omega)]; go_simp; rfl) | skip
    · have c0 := Ext.cell_some hxw c0
      have c1 := Ext.cell_some hxw c1
      have c2 := Ext.cell_some hxw c2
      clear hj
      go_simp
      try go_bits
      first | rfl | (rw [if_pos (by omega), if_pos (by omega)]; go_simp; rfl) | (rw [if_pos (by omega)]; go_simp; rfl) | skip
    · have c0 := Ext.cell_some hxw c0
      have c1 := Ext.cell_some hxw c1
      have c2 := Ext.cell_some hxw c2
      clear hj
      go_simp
      try go_bits
      first | rfl | (rw [if_pos (by omega), if_pos (by omega)]; go_simp; rfl) | (rw [if_pos (by omega)]; go_simp; rfl) | skip
  case' hx6_2_p =>
    intro vs w6 hx6 hk
    clear hk
    replace c0 := Ext.cell_some hx6 c0
    replace c1 := Ext.cell_some hx6 c1
    replace c2 := Ext.cell_some hx6 c2
    replace hx := Ext.trans hx hx6
    go_simp
    clear hx6 c0 c1 c2
    go_wp2
    go_ret
    exact ⟨rfl, hx⟩

set_option maxHeartbeats 1000000 in
theorem spec_CodeText_no (L W : Int) (o : ByteArray) (w : World) (ho : o.size ≤ maxLen) (h : codeOk L W o = false) :
    Calls Tryz.prog 24 #[.agg #[.int .i64 L, .int .i64 W, .string o]] w fun e w' => e = .returned (.string ⟨#[]⟩) ∧ Ext w w' := by
  go_enter Tryz.func24, Tryz.ntmps24
  go_wp2_with fail
  with_reducible refine (spec_IsCode_any _ _ _ _ ho).mono ?_
  rintro e w1 ⟨rfl, hx⟩
  rw [h]
  replace hx := (Ext.alloc _ _).trans hx
  go_wp2
  go_ret
  exact ⟨rfl, hx⟩

set_option maxHeartbeats 1000000 in
theorem spec_CodeText_yes (K n : Nat) (o : ByteArray) (w : World) (h : codeOk K n o = true) (h1 : 1 ≤ K) (h2 : K < 10) (h3 : 1 ≤ n) (h4 : n < 10) (ho27 : o.size ≤ 27) :
    Calls Tryz.prog 24 #[.agg #[.int .i64 K, .int .i64 n, .string o]] w fun e w' => e = .returned (.string (codeT K n o)) ∧ Ext w w' := by
  have ho : o.size ≤ maxLen := by unfold maxLen; omega
  have hK := fun w => spec_FormatInt_dig K w h1 h2
  have hn := fun w => spec_FormatInt_dig n w h3 h4
  unfold codeT
  obtain ⟨D, hD⟩ : ∃ D, D = digS K := ⟨_, rfl⟩
  obtain ⟨E, hE⟩ : ∃ E, E = digS n := ⟨_, rfl⟩
  rw [← hD] at hK ⊢
  rw [← hE] at hn ⊢
  have hDs : D.size = 1 := by rw [hD]; rfl
  have hEs : E.size = 1 := by rw [hE]; rfl
  have hsp : (⟨#[32]⟩ : ByteArray).size = 1 := rfl
  obtain ⟨A1, hA1⟩ : ∃ A1, A1 = D ++ ⟨#[32]⟩ := ⟨_, rfl⟩
  have hs1 : A1.size = 2 := by rw [hA1, ByteArray.size_append, hDs, hsp]
  obtain ⟨A2, hA2⟩ : ∃ A2, A2 = A1 ++ E := ⟨_, rfl⟩
  have hs2 : A2.size = 3 := by rw [hA2, ByteArray.size_append, hs1, hEs]
  obtain ⟨A3, hA3⟩ : ∃ A3, A3 = A2 ++ ⟨#[32]⟩ := ⟨_, rfl⟩
  have hs3 : A3.size = 4 := by rw [hA3, ByteArray.size_append, hs2, hsp]
  rw [← hA1, ← hA2, ← hA3]
  replace hA1 := hA1.symm
  replace hA2 := hA2.symm
  replace hA3 := hA3.symm
  have hp4 : ¬ 9223372036854775807 < 4 + o.size := by omega
  have HK := Lib.hid (And.intro hK hn)
  clear hK hn hD hE
  go_enter Tryz.func24, Tryz.ntmps24
  go_wp2_with fail
  with_reducible refine (spec_IsCode_any _ _ _ _ ho).mono ?_
  rintro e w1 ⟨rfl, hx⟩
  rw [h]
  have c0 : w1.cell? ⟨w.heap.size, 0, none⟩ = some (.int .i64 K) := hx.cell_some (by simp)
  have c1 : w1.cell? ⟨w.heap.size, 1, none⟩ = some (.int .i64 n) := hx.cell_some (by simp)
  have c2 : w1.cell? ⟨w.heap.size, 2, none⟩ = some (.string o) := hx.cell_some (by simp)
  replace hx := (Ext.alloc _ _).trans hx
  go_wp2
  refine wp_region_inv (by kernel_rfl) (.known ?hx6_3_v0 :: .known ?hx6_3_v1 :: .known (.string D) :: .known ?hx6_3_v3 :: .known ?hx6_3_v4 :: .known ?hx6_3_v5 :: .known (.string E) :: .known ?hx6_3_v7 :: .known ?hx6_3_v8 :: .known ?hx6_3_v9 :: .known ?hx6_3_v10 :: .known ?hx6_3_v11 :: .known ?hx6_3_v12 :: []) rfl (by kernel_rfl) ?hx6_3_s ?hx6_3_p
  case hx6_3_s =>
    intro vs
    refine ⟨fun w' hxw hj => ?_, fun w' hxw hj => ?_, fun w' hxw hj => ?_, fun w' hxw hj => ?_, fun w' hxw hj => ?_, fun w' hxw hj => ?_, fun w' hxw hj => ?_, fun w' hxw hj => ?_, fun w' hxw hj => ?_, fun w' hxw hj => ?_, fun w' hxw hj => ?_, fun w' hxw hj => ?_, fun w' hxw hj => ?_, trivial⟩
    · have c0 := Ext.cell_some hxw c0
      have c1 := Ext.cell_some hxw c1
      have c2 := Ext.cell_some hxw c2
      clear hj
      go_simp
      try go_bits
      first | rfl | (rw [if_pos (by omega), if_pos (by omega)]; go_simp; rfl) | (rw [if_pos (by omega)]; go_simp; rfl) | skip
    · have c0 := Ext.cell_some hxw c0
      have c1 := Ext.cell_some hxw c1
      have c2 := Ext.cell_some hxw c2
      clear hj
      go_simp
      try go_bits
      first | rfl | (rw [if_pos (by omega), if_pos (by omega)]; go_simp; rfl) | (rw [if_pos (by omega)]; go_simp; rfl) | skip
    · have c0 := Ext.cell_some hxw c0
      have c1 := Ext.cell_some hxw c1
      have c2 := Ext.cell_some hxw c2
      clear hj
      go_simp
      try go_bits
      exact HK.out.1 _
    · have c0 := Ext.cell_some hxw c0
      have c1 := Ext.cell_some hxw c1
      have c2 := Ext.cell_some hxw c2
      clear hj
      go_simp
      try go_bits
      first | rfl | (rw [if_pos (by omega), if_pos (by omega)]; go_simp; rfl) | (rw [if_pos (by omega)]; go_simp; rfl) | skip
    · have c0 := Ext.cell_some hxw c0
      have c1 := Ext.cell_some hxw c1
      have c2 := Ext.cell_some hxw c2
      clear hj
      go_simp
      try go_bits
      first | rfl | (rw [if_pos (by omega), if_pos (by omega)]; go_simp; rfl) | (rw [if_pos (by omega)]; go_simp; rfl) | skip
    · have c0 := Ext.cell_some hxw c0
      have c1 := Ext.cell_some hxw c1
      have c2 := Ext.cell_some hxw c2
      clear hj
      go_simp
      try go_bits
      first | rfl | (rw [if_pos (by omega), if_pos (by omega)]; go_simp; rfl) | (rw [if_pos (by omega)]; go_simp; rfl) | skip
    · have c0 := Ext.cell_some hxw c0
      have c1 := Ext.cell_some hxw c1
      have c2 := Ext.cell_some hxw c2
      clear hj
      go_simp
      try go_bits
      exact HK.out.2 _
    · have c0 := Ext.cell_some hxw c0
      have c1 := Ext.cell_some hxw c1
      have c2 := Ext.cell_some hxw c2
      clear hj
      go_simp
      try go_bits
      first | rfl | (rw [if_pos (by omega), if_pos (by omega)]; go_simp; rfl) | (rw [if_pos (by omega)]; go_simp; rfl) | skip
    · have c0 := Ext.cell_some hxw c0
      have c1 := Ext.cell_some hxw c1
      have c2 := Ext.cell_some hxw c2
      clear hj
      go_simp
      try go_bits
      first | rfl | (rw [if_pos (by omega), if_pos (by omega)]; go_simp; rfl) | (rw [if_pos (by omega)]; go_simp; rfl) | skip
    · have c0 := Ext.cell_some hxw c0
      have c1 := Ext.cell_some hxw c1
      have c2 := Ext.cell_some hxw c2
      clear hj
      go_simp
      try go_bits
      first | rfl | (rw [if_pos (by omega), if_pos (by omega)]; go_simp; rfl) | (rw [if_pos (by omega)]; go_simp; rfl) | skip
    · have c0 := Ext.cell_some hxw c0
      have c1 := Ext.cell_some hxw c1
      have c2 := Ext.cell_some hxw c2
      clear hj
      go_simp
      try go_bits
      first | rfl | (rw [if_pos (by omega), if_pos (by omega)]; go_simp; rfl) | (rw [if_pos (by omega)]; go_simp; rfl) | skip
    · have c0 := Ext.cell_some hxw c0
      have c1 := Ext.cell_some hxw c1
      have c2 := Ext.cell_some hxw c2
      clear hj
      go_simp
      try go_bits
      first | rfl | (rw [if_pos (by omega), if_pos (by omega)]; go_simp; rfl) | (rw [if_pos (by omega)]; go_simp; rfl) | skip
    · have c0 := Ext.cell_some hxw c0
      have c1 := Ext.cell_some hxw c1
      have c2 := Ext.cell_some hxw c2
      clear hj
      go_simp
      try go_bits
      first | rfl | (rw [if_pos (by omega), if_pos (by omega)]; go_simp; rfl) | (rw [if_pos (by omega)]; go_simp; rfl) | skip
  case' hx6_3_p =>
    intro vs w6 hx6 hk
    clear hk
    replace c0 := Ext.cell_some hx6 c0
    replace c1 := Ext.cell_some hx6 c1
    replace c2 := Ext.cell_some hx6 c2
    replace hx := Ext.trans hx hx6
    go_simp
    clear hx6 c0 c1 c2
    go_wp2
    go_ret
    exact ⟨rfl, hx⟩
end Go.Proofs.YtgaeeibcfoppbaaGreatDoor
