/- Contract: the program's countSources. -/
import Derived.Test.YtgbbidlbdjbilaaPkC
import Derived.Test.YtgbbidlbdjbilaaPkB
namespace Go.Proofs.Ytgbbidlbdjbilaa
open Go.RowKit Go.Cm

theorem Own.other {w : World} {B : Nat} {E : TypeId} {g n cap : Nat} {fs : List Value} (h : Own w B E (.slice (some ⟨g, 0, none⟩) n cap) fs) {g2 : Nat} (hne : g2 ≠ g) (j : Nat) (u : Value) : Own (w.setCell ⟨g2, j, none⟩ u) B E (.slice (some ⟨g, 0, none⟩) n cap) fs :=
  GB.own (GB.setCell (GB.refl w (some g2)) j u) h (by intro k hk; simp [Value.ownBlock] at hk ⊢; omega)

set_option maxHeartbeats 1000000 in
theorem impl_totalN_any (l : List Nat) (g n cap B M : Nat) (w : World) (hown : Own w B 3 (.slice (some ⟨g, 0, none⟩) n cap) (ncells l)) (hb : Bnd M l) (hn : n ≤ 27) (hM : M ≤ 282429536481) :
    Calls Try.prog 47 #[.slice (some ⟨g, 0, none⟩) n cap] w fun e w' => e = .returned (.int .i64 (l.sum : Nat)) ∧ w = w' := by
  have hl : l.length = n := by have := hown.len; rw [ncells_length] at this; exact this.symm
  go_enter Try.func47, Try.ntmps47
  go_wp2
  go_loop [3, 8] (fun v i => ∃ k : Nat, k ≤ n ∧ i = .int .i64 k ∧ v = .int .i64 (sumTo l k : Nat)) (fun _ i => n - (intOf i).toNat)
  case atStart => exact ⟨0, by omega, rfl, by simp [sumTo]⟩
  case round =>
    obtain ⟨k, hk, rfl, rfl⟩ := hrel
    by_cases hlt : k < n
    · have hc := hown.cell k (by rw [ncells_length, hl]; exact hlt)
      rw [ncells_at _ _ (by rw [hl]; exact hlt)] at hc
      have hs := sumTo_succ l k (by rw [hl]; exact hlt)
      have hle := sumTo_le hb k
      have hy := hb k
      have hkM : k * M ≤ 27 * 282429536481 := Nat.mul_le_mul (by omega) hM
      obtain ⟨y, hyy⟩ : ∃ y, y = l.getD k 0 := ⟨_, rfl⟩
      obtain ⟨x, hx⟩ : ∃ x, x = sumTo l k := ⟨_, rfl⟩
      rw [← hyy] at hc hs hy
      rw [← hx] at hs hle ⊢
      have hxb : x ≤ 7625597484987 := by omega
      have HS := Lib.hid hs
      clear hs hyy hx hle hkM
      go_wp2
      go_round
      case rel => exact ⟨k + 1, by omega, by go_num, by rw [HS.out]; go_num⟩
      case measure => simp [intOf]; omega
    · have hkn : k = n := by omega
      subst hkn
      have e : sumTo l k = l.sum := by rw [← hl]; exact sumTo_all l
      rw [e]
      go_wp2
      go_ret
      exact ⟨rfl, rfl⟩

/-- ones first, then zeros -/
def fillL (N k : Nat) : List Nat := List.replicate k 1 ++ List.replicate (N - k) 0
theorem fillL_set (N k : Nat) (h : k < N) : (fillL N k).set k 1 = fillL N (k + 1) := by
  unfold fillL
  rw [List.set_append_right _ _ (by simp), List.length_replicate, Nat.sub_self, show N - k = (N - (k + 1)) + 1 by omega, List.replicate_succ, List.set_cons_zero, List.replicate_succ', List.append_assoc]
  rfl
theorem fillL_length (N k : Nat) (h : k ≤ N) : (fillL N k).length = N := by simp [fillL]; omega

end Go.Proofs.Ytgbbidlbdjbilaa
