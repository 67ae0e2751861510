/- Contracts: arcs compared, by the program and by the reference. -/
import Derived.Test.YtjfgbnihnnlneaaLabD
import Derived.Test.YtjfgbnihnnlneaaMat
namespace Go.Proofs.Ytjfgbnihnnlneaa
open Go.RowKit

def cmpI (x y : Int) : Int := if x < y then -1 else if y < x then 1 else 0
def orL : List Int → Int
  | [] => 0
  | x :: xs => if x ≠ 0 then x else orL xs
theorem orL_skip (xs : List Int) : ∀ k, k ≤ xs.length → (∀ j, j < k → xs.getD j 0 = 0) → orL xs = orL (xs.drop k) := by
  induction xs with
  | nil => intro k hk _; simp
  | cons x xs ih =>
    intro k hk h
    cases k with
    | zero => rfl
    | succ k =>
      have h0 := h 0 (by omega)
      simp at h0
      rw [List.drop_succ_cons, ← ih k (by simpa using hk) (fun j hj => by have := h (j + 1) (by omega); simpa using this)]
      simp [orL, h0]
theorem orL_hit (xs : List Int) (k : Nat) (hk : k < xs.length) (h : ∀ j, j < k → xs.getD j 0 = 0) (hx : ¬ xs.getD k 0 = 0) : orL xs = xs.getD k 0 := by
  rw [orL_skip xs k (by omega) h]
  rw [List.drop_eq_getElem_cons hk]
  have e : xs[k] = xs.getD k 0 := by simp [List.getD_eq_getElem?_getD, List.getElem?_eq_getElem hk]
  rw [e]
  simp only [orL]
  rw [if_pos hx]
theorem orL_none (xs : List Int) (h : ∀ j, j < xs.length → xs.getD j 0 = 0) : orL xs = 0 := by
  rw [orL_skip xs xs.length (Nat.le_refl _) h, List.drop_length]; rfl

theorem isNaN_any (x : Int) (w : World) : Calls Try.prog 24 #[.int .i64 x] w fun e w' => e = .returned (.bool false) ∧ w = w' := by
  go_enter Try.func24, Try.ntmps24
  go_wp2
  go_ret
  exact ⟨lab_bool (by simp), rfl⟩
theorem Compare_any (x y : Int) (w : World) : Calls Try.prog 23 #[.int .i64 x, .int .i64 y] w fun e w' => e = .returned (.int .i64 (cmpI x y)) ∧ w = w' := by
  by_cases h1 : x < y
  · have HV := Lib.hid (show cmpI x y = -1 from if_pos h1)
    go_enter Try.func23, Try.ntmps23
    go_wp2_with (go_at_call 24; with_reducible refine (isNaN_any _ _).mono ?_; rintro e w' ⟨rfl, rfl⟩)
    go_ret
    exact ⟨by rw [HV.out]; rfl, rfl⟩
  by_cases h2 : y < x
  · have HV := Lib.hid (show cmpI x y = 1 by unfold cmpI; rw [if_neg h1, if_pos h2])
    go_enter Try.func23, Try.ntmps23
    go_wp2_with (go_at_call 24; with_reducible refine (isNaN_any _ _).mono ?_; rintro e w' ⟨rfl, rfl⟩)
    go_ret
    exact ⟨by rw [HV.out]; rfl, rfl⟩
  · have HV := Lib.hid (show cmpI x y = 0 by unfold cmpI; rw [if_neg h1, if_neg h2])
    go_enter Try.func23, Try.ntmps23
    go_wp2_with (go_at_call 24; with_reducible refine (isNaN_any _ _).mono ?_; rintro e w' ⟨rfl, rfl⟩)
    go_ret
    exact ⟨by rw [HV.out]; rfl, rfl⟩
theorem Or_any (v : Value) (xs : List Int) (w : World) (h : ReadsI w v xs) : Calls Try.prog 22 #[v] w fun e w' => e = .returned (.int .i64 (orL xs)) ∧ w = w' := by
  obtain ⟨a, c, rfl⟩ := h.slice
  obtain ⟨-, hlc, hc⟩ := h.len
  obtain ⟨n, hn⟩ : ∃ n, n = xs.length := ⟨_, rfl⟩
  rw [← hn] at h hlc ⊢
  have HM := Lib.hid (And.intro h hn)
  clear h hn
  go_enter Try.func22, Try.ntmps22
  go_wp2
  go_loop [8] (fun q => ∃ k : Nat, k ≤ n ∧ q = .int .i64 k ∧ ∀ j, j < k → xs.getD j 0 = 0) (fun q => n - (intOf q).toNat)
  case atStart => exact ⟨0, by omega, rfl, fun j hj => by omega⟩
  case round =>
    obtain ⟨k, hk, rfl, hp⟩ := hrel
    by_cases hlt : k < n
    · have hkm : k < xs.length := by rw [← HM.out.2]; exact hlt
      obtain ⟨b, o, rfl, hcell⟩ := HM.out.1.at k hkm
      obtain ⟨x, hx⟩ : ∃ x, x = xs.getD k 0 := ⟨_, rfl⟩
      rw [← hx] at hcell
      by_cases hx0 : x = 0
      · have HP := Lib.hid (show ∀ j, j < k + 1 → xs.getD j 0 = 0 from fun j hj => by
          by_cases e : j = k
          · subst e; rw [← hx]; exact hx0
          · exact hp j (by omega))
        clear hp hx hkm
        subst hx0
        go_wp2
        go_round
        case rel => exact ⟨k + 1, by omega, by go_num, HP.out⟩
        case measure => simp [intOf]; omega
      · have HP := Lib.hid (show orL xs = x by rw [hx]; exact orL_hit xs k hkm hp (by rw [← hx]; exact hx0))
        have hne : (x != 0) = true := by simpa using hx0
        clear hp hx hkm hx0
        go_wp2
        go_ret
        exact ⟨by rw [HP.out]; rfl, rfl⟩
    · have hkn : k = n := by omega
      have HP := Lib.hid (orL_none xs fun j hj => hp j (by rw [hkn, HM.out.2]; exact hj))
      clear hp
      go_wp2
      go_ret
      exact ⟨by rw [HP.out]; rfl, rfl⟩

/-- a row of three numbers -/
def Box3 (x y z : Int) (v : Value) (w : World) : Prop := ReadsI w v [x, y, z]
theorem Box3.ok (x y z : Int) : ∀ v w w', Ext w w' → Box3 x y z v w → Box3 x y z v w' := fun _ _ _ hx h => ReadsI.ext h hx
theorem Box3.new (x y z : Int) (w : World) (E : TypeId) : Ext w (w.alloc (.cells #[.int .i64 x, .int .i64 y, .int .i64 z] E)) ∧ Box3 x y z (.slice (some ⟨w.heap.size, 0, none⟩) 3 3) (w.alloc (.cells #[.int .i64 x, .int .i64 y, .int .i64 z] E)) :=
  ⟨Ext.alloc _ _, (Own.lit w E [.int .i64 x, .int .i64 y, .int .i64 z] (by simp [maxLen])).readsI (xs := [x, y, z])⟩
def cmpA (a b : Int × Int × Int) : Int := orL [cmpI a.1 b.1, cmpI a.2.2 b.2.2, cmpI a.2.1 b.2.1]

set_option maxHeartbeats 2000000 in
theorem compareArcs_any (x y z x' y' z' : Int) (w : World) :
    Calls Try.prog 19 #[.agg #[.int .i64 x, .int .i64 y, .int .i64 z], .agg #[.int .i64 x', .int .i64 y', .int .i64 z']] w fun e w' => e = .returned (.int .i64 (cmpA (x, y, z) (x', y', z'))) ∧ Ext w w' := by
  obtain ⟨p, hp⟩ : ∃ p, p = cmpI x x' := ⟨_, rfl⟩
  obtain ⟨q, hq⟩ : ∃ p, p = cmpI z z' := ⟨_, rfl⟩
  obtain ⟨r, hr⟩ : ∃ p, p = cmpI y y' := ⟨_, rfl⟩
  have e : cmpA (x, y, z) (x', y', z') = orL [p, q, r] := by rw [hp, hq, hr]; rfl
  obtain ⟨s, hs⟩ : ∃ s, s = orL [p, q, r] := ⟨_, rfl⟩
  rw [e, ← hs]
  have h1 := fun w => Compare_any x x' w
  have h2 := fun w => Compare_any z z' w
  have h3 := fun w => Compare_any y y' w
  have h4 := fun v w h => Or_any v [p, q, r] w h
  rw [← hp] at h1
  rw [← hq] at h2
  rw [← hr] at h3
  rw [← hs] at h4
  have HC := Lib.hid (And.intro h1 (And.intro h2 (And.intro h3 h4)))
  clear h1 h2 h3 h4 e hs hp hq hr
  have HX := Lib.hid (Ext.trans (Ext.alloc w (.cells #[.int .i64 x, .int .i64 y, .int .i64 z] 36)) (Ext.alloc _ (.cells #[.int .i64 x', .int .i64 y', .int .i64 z'] 36)))
  obtain ⟨W, hW⟩ : ∃ W, W = (w.alloc (.cells #[.int .i64 x, .int .i64 y, .int .i64 z] 36)).alloc (.cells #[.int .i64 x', .int .i64 y', .int .i64 z'] 36) := ⟨_, rfl⟩
  have a0 : W.cell? ⟨w.heap.size, 0, none⟩ = some (.int .i64 x) := by rw [hW]; exact old_cell (fresh_cell rfl rfl)
  have a1 : W.cell? ⟨w.heap.size, 1, none⟩ = some (.int .i64 y) := by rw [hW]; exact old_cell (fresh_cell rfl rfl)
  have a2 : W.cell? ⟨w.heap.size, 2, none⟩ = some (.int .i64 z) := by rw [hW]; exact old_cell (fresh_cell rfl rfl)
  have b0 : W.cell? ⟨w.heap.size + 1, 0, none⟩ = some (.int .i64 x') := by rw [hW]; exact fresh_cell (by simp) rfl
  have b1 : W.cell? ⟨w.heap.size + 1, 1, none⟩ = some (.int .i64 y') := by rw [hW]; exact fresh_cell (by simp) rfl
  have b2 : W.cell? ⟨w.heap.size + 1, 2, none⟩ = some (.int .i64 z') := by rw [hW]; exact fresh_cell (by simp) rfl
  have E := HX.out
  rw [← hW] at E
  go_enter Try.func19, Try.ntmps19
  go_wp2
  rw [← hW]
  clear hW HX
  refine wp_region_inv (by kernel_rfl) [.known ?hx5_1_v0, .known ?hx5_1_v1, .known ?hx5_1_v2, .known ?hx5_1_v3, .known (.int .i64 p), .known ?hx5_1_v5, .known ?hx5_1_v6, .known ?hx5_1_v7, .known ?hx5_1_v8, .known (.int .i64 q), .known ?hx5_1_v10, .known ?hx5_1_v11, .known ?hx5_1_v12, .known ?hx5_1_v13, .known (.int .i64 r), .such (Box3 p q r) (Box3.ok _ _ _), .known (.int .i64 s), .known ?hx5_1_v17] rfl (by kernel_rfl) ?hx5_1_s ?hx5_1_p
  case hx5_1_s =>
    intro vs
    refine ⟨fun w' hxw hj => ?_, fun w' hxw hj => ?_, fun w' hxw hj => ?_, fun w' hxw hj => ?_, fun w' hxw hj => ?_, fun w' hxw hj => ?_, fun w' hxw hj => ?_, fun w' hxw hj => ?_, fun w' hxw hj => ?_, fun w' hxw hj => ?_, fun w' hxw hj => ?_, fun w' hxw hj => ?_, fun w' hxw hj => ?_, fun w' hxw hj => ?_, fun w' hxw hj => ?_, fun w' hxw hj => ?_, fun w' hxw hj => ?_, fun w' hxw hj => ?_, trivial⟩
    · have a0 := Ext.cell_some hxw a0
      have a1 := Ext.cell_some hxw a1
      have a2 := Ext.cell_some hxw a2
      have b0 := Ext.cell_some hxw b0
      have b1 := Ext.cell_some hxw b1
      have b2 := Ext.cell_some hxw b2
      clear hj
      go_simp
      try go_bits
      first | rfl | (rw [if_pos (by omega), if_pos (by omega)]; go_simp; rfl) | (rw [if_pos (by omega)]; go_simp; rfl) | skip
    · have a0 := Ext.cell_some hxw a0
      have a1 := Ext.cell_some hxw a1
      have a2 := Ext.cell_some hxw a2
      have b0 := Ext.cell_some hxw b0
      have b1 := Ext.cell_some hxw b1
      have b2 := Ext.cell_some hxw b2
      clear hj
      go_simp
      try go_bits
      first | rfl | (rw [if_pos (by omega), if_pos (by omega)]; go_simp; rfl) | (rw [if_pos (by omega)]; go_simp; rfl) | skip
    · have a0 := Ext.cell_some hxw a0
      have a1 := Ext.cell_some hxw a1
      have a2 := Ext.cell_some hxw a2
      have b0 := Ext.cell_some hxw b0
      have b1 := Ext.cell_some hxw b1
      have b2 := Ext.cell_some hxw b2
      clear hj
      go_simp
      try go_bits
      first | rfl | (rw [if_pos (by omega), if_pos (by omega)]; go_simp; rfl) | (rw [if_pos (by omega)]; go_simp; rfl) | skip
    · have a0 := Ext.cell_some hxw a0
      have a1 := Ext.cell_some hxw a1
      have a2 := Ext.cell_some hxw a2
      have b0 := Ext.cell_some hxw b0
      have b1 := Ext.cell_some hxw b1
      have b2 := Ext.cell_some hxw b2
      clear hj
      go_simp
      try go_bits
      first | rfl | (rw [if_pos (by omega), if_pos (by omega)]; go_simp; rfl) | (rw [if_pos (by omega)]; go_simp; rfl) | skip
    · have a0 := Ext.cell_some hxw a0
      have a1 := Ext.cell_some hxw a1
      have a2 := Ext.cell_some hxw a2
      have b0 := Ext.cell_some hxw b0
      have b1 := Ext.cell_some hxw b1
      have b2 := Ext.cell_some hxw b2
      clear hj
      go_simp
      try go_bits
      exact (HC.out.1 _).mono fun _ _ ⟨h1, h2⟩ => ⟨h1, h2 ▸ Ext.refl _⟩
    · have a0 := Ext.cell_some hxw a0
      have a1 := Ext.cell_some hxw a1
      have a2 := Ext.cell_some hxw a2
      have b0 := Ext.cell_some hxw b0
      have b1 := Ext.cell_some hxw b1
      have b2 := Ext.cell_some hxw b2
      clear hj
      go_simp
      try go_bits
      first | rfl | (rw [if_pos (by omega), if_pos (by omega)]; go_simp; rfl) | (rw [if_pos (by omega)]; go_simp; rfl) | skip
    · have a0 := Ext.cell_some hxw a0
      have a1 := Ext.cell_some hxw a1
      have a2 := Ext.cell_some hxw a2
      have b0 := Ext.cell_some hxw b0
      have b1 := Ext.cell_some hxw b1
      have b2 := Ext.cell_some hxw b2
      clear hj
      go_simp
      try go_bits
      first | rfl | (rw [if_pos (by omega), if_pos (by omega)]; go_simp; rfl) | (rw [if_pos (by omega)]; go_simp; rfl) | skip
    · have a0 := Ext.cell_some hxw a0
      have a1 := Ext.cell_some hxw a1
      have a2 := Ext.cell_some hxw a2
      have b0 := Ext.cell_some hxw b0
      have b1 := Ext.cell_some hxw b1
      have b2 := Ext.cell_some hxw b2
      clear hj
      go_simp
      try go_bits
      first | rfl | (rw [if_pos (by omega), if_pos (by omega)]; go_simp; rfl) | (rw [if_pos (by omega)]; go_simp; rfl) | skip
    · have a0 := Ext.cell_some hxw a0
      have a1 := Ext.cell_some hxw a1
      have a2 := Ext.cell_some hxw a2
      have b0 := Ext.cell_some hxw b0
      have b1 := Ext.cell_some hxw b1
      have b2 := Ext.cell_some hxw b2
      clear hj
      go_simp
      try go_bits
      first | rfl | (rw [if_pos (by omega), if_pos (by omega)]; go_simp; rfl) | (rw [if_pos (by omega)]; go_simp; rfl) | skip
    · have a0 := Ext.cell_some hxw a0
      have a1 := Ext.cell_some hxw a1
      have a2 := Ext.cell_some hxw a2
      have b0 := Ext.cell_some hxw b0
      have b1 := Ext.cell_some hxw b1
      have b2 := Ext.cell_some hxw b2
      clear hj
      go_simp
      try go_bits
      exact (HC.out.2.1 _).mono fun _ _ ⟨h1, h2⟩ => ⟨h1, h2 ▸ Ext.refl _⟩
    · have a0 := Ext.cell_some hxw a0
      have a1 := Ext.cell_some hxw a1
      have a2 := Ext.cell_some hxw a2
      have b0 := Ext.cell_some hxw b0
      have b1 := Ext.cell_some hxw b1
      have b2 := Ext.cell_some hxw b2
      clear hj
      go_simp
      try go_bits
      first | rfl | (rw [if_pos (by omega), if_pos (by omega)]; go_simp; rfl) | (rw [if_pos (by omega)]; go_simp; rfl) | skip
    · have a0 := Ext.cell_some hxw a0
      have a1 := Ext.cell_some hxw a1
      have a2 := Ext.cell_some hxw a2
      have b0 := Ext.cell_some hxw b0
      have b1 := Ext.cell_some hxw b1
      have b2 := Ext.cell_some hxw b2
      clear hj
      go_simp
      try go_bits
      first | rfl | (rw [if_pos (by omega), if_pos (by omega)]; go_simp; rfl) | (rw [if_pos (by omega)]; go_simp; rfl) | skip
    · have a0 := Ext.cell_some hxw a0
      have a1 := Ext.cell_some hxw a1
      have a2 := Ext.cell_some hxw a2
      have b0 := Ext.cell_some hxw b0
      have b1 := Ext.cell_some hxw b1
      have b2 := Ext.cell_some hxw b2
      clear hj
      go_simp
      try go_bits
      first | rfl | (rw [if_pos (by omega), if_pos (by omega)]; go_simp; rfl) | (rw [if_pos (by omega)]; go_simp; rfl) | skip
    · have a0 := Ext.cell_some hxw a0
      have a1 := Ext.cell_some hxw a1
      have a2 := Ext.cell_some hxw a2
      have b0 := Ext.cell_some hxw b0
      have b1 := Ext.cell_some hxw b1
      have b2 := Ext.cell_some hxw b2
      clear hj
      go_simp
      try go_bits
      first | rfl | (rw [if_pos (by omega), if_pos (by omega)]; go_simp; rfl) | (rw [if_pos (by omega)]; go_simp; rfl) | skip
    · have a0 := Ext.cell_some hxw a0
      have a1 := Ext.cell_some hxw a1
      have a2 := Ext.cell_some hxw a2
      have b0 := Ext.cell_some hxw b0
      have b1 := Ext.cell_some hxw b1
      have b2 := Ext.cell_some hxw b2
      clear hj
      go_simp
      try go_bits
      exact (HC.out.2.2.1 _).mono fun _ _ ⟨h1, h2⟩ => ⟨h1, h2 ▸ Ext.refl _⟩
    · have a0 := Ext.cell_some hxw a0
      have a1 := Ext.cell_some hxw a1
      have a2 := Ext.cell_some hxw a2
      have b0 := Ext.cell_some hxw b0
      have b1 := Ext.cell_some hxw b1
      have b2 := Ext.cell_some hxw b2
      clear hj
      go_simp
      try go_bits
      exact Box3.new _ _ _ _ _
    · have a0 := Ext.cell_some hxw a0
      have a1 := Ext.cell_some hxw a1
      have a2 := Ext.cell_some hxw a2
      have b0 := Ext.cell_some hxw b0
      have b1 := Ext.cell_some hxw b1
      have b2 := Ext.cell_some hxw b2
      have h15 := hj 15 (by kernel_rfl)
      clear hj
      go_simp
      try go_bits
      exact (HC.out.2.2.2 _ _ h15).mono fun _ _ ⟨h1, h2⟩ => ⟨h1, h2 ▸ Ext.refl _⟩
    · have a0 := Ext.cell_some hxw a0
      have a1 := Ext.cell_some hxw a1
      have a2 := Ext.cell_some hxw a2
      have b0 := Ext.cell_some hxw b0
      have b1 := Ext.cell_some hxw b1
      have b2 := Ext.cell_some hxw b2
      clear hj
      go_simp
      try go_bits
      first | rfl | (rw [if_pos (by omega), if_pos (by omega)]; go_simp; rfl) | (rw [if_pos (by omega)]; go_simp; rfl) | skip
  case' hx5_1_p =>
    intro vs w5 hx5 hk
    have k15 : (Box3 p q r) (vs 15) w5 := hk 15 _ rfl
    clear hk
    replace a0 := Ext.cell_some hx5 a0
    replace a1 := Ext.cell_some hx5 a1
    replace a2 := Ext.cell_some hx5 a2
    replace b0 := Ext.cell_some hx5 b0
    replace b1 := Ext.cell_some hx5 b1
    replace b2 := Ext.cell_some hx5 b2
    replace E := Ext.trans E hx5
    go_simp
    clear k15 hx5
    go_wp2
    go_ret
    exact ⟨rfl, E⟩
end Go.Proofs.Ytjfgbnihnnlneaa
