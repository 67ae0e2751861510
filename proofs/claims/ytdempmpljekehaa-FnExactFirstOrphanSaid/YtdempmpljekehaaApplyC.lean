/- Contracts: what a word is, the letter that a code gives, a code on a word: the reference's. -/
import Derived.Test.YtdempmpljekehaaApplyB
namespace Go.Proofs.Ytdempmpljekehaa
open Go.RowKit Go.Cm

theorem wordOk_at {k : Int} {s : ByteArray} {i : Nat} (hi : i < s.size) (h1 : ¬ (97 ≤ (s[i].toNat : Int) ∧ (s[i].toNat : Int) - 97 < k)) : wordOk k s = false := by
  unfold wordOk
  rw [areLet_bad hi h1]
  simp

set_option maxHeartbeats 400000 in
theorem spec_IsWord_any (k : Int) (s : ByteArray) (w : World) (hs : s.size ≤ maxLen) :
    Calls Try.prog 94 #[.int .i64 k, .string s] w fun e w' => e = .returned (.bool (wordOk k s)) ∧ w = w' := by
  unfold maxLen at hs
  go_enter Try.func94, Try.ntmps94
  go_wp2
  go_loop [5] (fun i => ∃ j : Nat, j ≤ s.size ∧ i = .int .i64 j ∧ areLet k (s.data.toList.take j) = true) (fun i => s.size - (intOf i).toNat)
  case atStart => exact ⟨0, by omega, rfl, by simp [areLet]⟩
  case round =>
    obtain ⟨j, hj, rfl, hp⟩ := hrel
    have HP := Lib.hid hp
    clear hp
    by_cases hlt : j < s.size
    · have hb := s[j].toNat_lt
      go_wp2
      · go_ret
        exact ⟨ret_bool (wordOk_at hlt (by omega)).symm, rfl⟩
      · go_round
        case rel => exact ⟨j + 1, by omega, by go_num, areLet_snoc hlt HP.out (by omega) (by omega)⟩
        case measure => simp [intOf]; omega
      · go_ret
        exact ⟨ret_bool (wordOk_at hlt (by omega)).symm, rfl⟩
    · have : j = s.size := by omega
      subst this
      have ha := areLet_all HP.out
      have HA := Lib.hid ha
      clear ha
      by_cases h1 : 1 ≤ k ∧ k ≤ 3
      · obtain ⟨h1, h3⟩ := h1
        go_wp2_with (go_at_call 71; refine (spec_l1In_yes _ _ _ _ h1 h3).mono ?_; rintro e w' ⟨rfl, rfl⟩)
        all_goals (go_ret; exact ⟨ret_bool (by simp [wordOk, h1, h3, HA.out]; omega), rfl⟩)
      · have H1 := Lib.hid h1
        clear h1
        go_wp2_with (go_at_call 71; refine (spec_l1In_no k 1 3 _ (by have := H1.out; omega)).mono ?_; rintro e w' ⟨rfl, rfl⟩)
        all_goals (go_ret; exact ⟨ret_bool (by have := H1.out; simp [wordOk]; omega), rfl⟩)

set_option maxHeartbeats 1000000 in
theorem spec_l11Letter_any (K n : Nat) (o : ByteArray) (u : List UInt8) (w : World) (hf : CodeFit K n o) (hl : u.length = n) (ha : areLet K u = true) :
    Calls Try.prog 89 #[.agg #[.int .i64 K, .int .i64 n, .string o], .string (mkS u)] w fun e w' => e = .returned (.string (mkS [givesL K o u])) ∧ Ext w w' := by
  obtain ⟨hi, hg⟩ := givesL_eq hf hl ha
  have hk3 := hf.k3
  have hn4 := hf.n4
  have hle := hf.le
  have hos := hf.size
  obtain ⟨s, hs⟩ : ∃ s, s = mkS u := ⟨_, rfl⟩
  have hsd : s.data.toList = u := by rw [hs, mkS_data]
  have hss : s.size = n := by rw [hs, mkS_size, hl]
  have hol : o.size ≤ 27 := by omega
  rw [← hs]
  have HA := Lib.hid (And.intro hsd (And.intro ha (And.intro hi trivial)))
  clear hs hsd ha hi hg hl hle hos
  go_enter Try.func89, Try.ntmps89
  go_wp2
  go_loopw [5, 6] (fun x i wr => ∃ k : Nat, k ≤ s.size ∧ i = .int .i64 k ∧ x = .int .i64 (idxL K (s.data.toList.take k)) ∧ Ext (w.alloc (.cells #[.int .i64 K, .int .i64 n, .string o] 26)) wr) (fun _ i _ => s.size - (intOf i).toNat)
  case atStart => exact ⟨0, by omega, rfl, by simp [idxL], Ext.refl _⟩
  case round =>
    obtain ⟨k, hk, rfl, rfl, hx⟩ := hrel
    have c0 : wr.cell? ⟨w.heap.size, 0, none⟩ = some (.int .i64 K) := hx.cell_some (by simp)
    have c2 : wr.cell? ⟨w.heap.size, 2, none⟩ = some (.string o) := hx.cell_some (by simp)
    by_cases hlt : k < s.size
    · have hb := s[k].toNat_lt
      have hAu : areLet K s.data.toList = true := by rw [HA.out.1]; exact HA.out.2.1
      have hlet : isLet K s[k] = true := by
        have h1 := hAu
        unfold areLet at h1
        rw [List.all_eq_true] at h1
        refine h1 _ ?_
        have : s.data.toList[k]'(by simpa using hlt) = s[k] := rfl
        rw [← this]; exact List.getElem_mem _
      simp only [isLet, Bool.and_eq_true, decide_eq_true_eq] at hlet
      obtain ⟨hl1, hl2⟩ := hlet
      have hi : idxL K (s.data.toList.take k) < 43046721 := by
        have h1 := idxL_lt K (s.data.toList.take k) (by
          have h1 := hAu
          unfold areLet at *
          rw [List.all_eq_true] at *
          intro c hc
          exact h1 c (List.mem_of_mem_take hc))
        have h2 : (s.data.toList.take k).length ≤ 16 := by simp; omega
        have h3 : K ^ (s.data.toList.take k).length ≤ 3 ^ 16 := Nat.le_trans (Nat.pow_le_pow_left hk3 _) (Nat.pow_le_pow_right (by omega) h2)
        have h4 : (3 : Nat) ^ 16 = 43046721 := by decide
        omega
      have hs1 := take_snoc s k hlt
      obtain ⟨x, hx'⟩ : ∃ x, x = idxL K (s.data.toList.take k) := ⟨_, rfl⟩
      have hx2 : idxL K (s.data.toList.take (k + 1)) = x * K + (s[k].toNat - 97) := by rw [hs1, idxL_snoc, hx']
      rw [← hx'] at hi ⊢
      have HX := Lib.hid hx2
      have hm0 : (0 : Int) ≤ (x : Int) * (K : Int) := Int.mul_nonneg (by omega) (by omega)
      have hm1 : (x : Int) * (K : Int) ≤ 129140163 := by
        have : x * K ≤ 43046721 * 3 := Nat.mul_le_mul (by omega) hk3
        have h2 : ((x * K : Nat) : Int) ≤ 129140163 := by omega
        simpa using h2
      clear hs1 hx' hx2 hAu
      obtain ⟨y, hy⟩ : ∃ y : Nat, (y : Int) = (x : Int) * (K : Int) + (s[k].toNat : Int) - 97 := ⟨((x : Int) * (K : Int) + (s[k].toNat : Int) - 97).toNat, by omega⟩
      have HY := Lib.hid hy
      clear hy
      go_wp2
      refine wp_region_inv (by kernel_rfl) [.known (.int .i64 x), .known (.pointer (some ⟨w.heap.size, 0, none⟩)), .known (.int .i64 K), .known (.int .i64 ((x : Int) * (K : Int))), .known (.string s), .known (.int .i64 k), .known (.int .u8 (s[k].toNat : Int)), .known (.int .i64 (s[k].toNat : Int)), .known (.int .i64 ((x : Int) * (K : Int) + (s[k].toNat : Int))), .known (.int .i64 y), .known (.int .i64 y)] rfl (by kernel_rfl) ?_ ?_
      · intro vs
        refine ⟨fun w' hx hj => ?_, fun w' hx hj => ?_, fun w' hx hj => ?_, fun w' hx hj => ?_, fun w' hx hj => ?_, fun w' hx hj => ?_, fun w' hx hj => ?_, fun w' hx hj => ?_, fun w' hx hj => ?_, fun w' hx hj => ?_, fun w' hx hj => ?_, trivial⟩
        · clear hj
          go_simp
        · clear hj
          go_simp
        · have c0 := Ext.cell_some hx c0
          clear hj
          go_simp
        · have e1 : IntKind.i64.wrap ((x : Int) * (K : Int)) = x * K := IntWalk.i64_in _ (by omega)
          clear hj
          go_simp
        · clear hj
          go_simp
        · clear hj
          go_simp
        · clear hj
          go_simp
        · have e1 : IntKind.i64.wrap (s[k].toNat : Int) = s[k].toNat := IntWalk.i64_in _ (by omega)
          clear hj
          go_simp
        · have e1 : IntKind.i64.wrap ((x : Int) * (K : Int) + (s[k].toNat : Int)) = x * K + s[k].toNat := IntWalk.i64_in _ (by omega)
          clear hj
          go_simp
        · have e1 : IntKind.i64.wrap ((x : Int) * (K : Int) + (s[k].toNat : Int) - 97) = y := by rw [HY.out]; exact IntWalk.i64_in _ (by omega)
          clear hj
          go_simp
        · clear hj
          go_simp
      · intro vs w1 hx1 hk
        clear hk
        go_simp
        go_wp2
        go_roundw
        case rel => exact ⟨k + 1, by omega, by go_num, by rw [HX.out]; congr 1; have := HY.out; simp; omega, hx.trans hx1⟩
        case measure => simp [intOf]; omega
    · have : k = s.size := by omega
      subst this
      have ht := take_all s
      have hsd := HA.out.1
      rw [ht, hsd]
      obtain ⟨x, hx'⟩ : ∃ x, x = idxL K u := ⟨_, rfl⟩
      have hxo : x < o.size := by rw [hx']; exact HA.out.2.2.1
      have hgo : o.extract x (x + 1) = mkS [givesL K o u] := by
        have h1 := mkS_slice o.data.toList x (by simpa using hxo)
        rw [mkS_data_self] at h1
        rw [h1, hx']
        rfl
      rw [← hx']
      clear ht hsd hx'
      go_wp2
      go_ret
      exact ⟨by rw [← hgo]; rfl, (Ext.alloc _ _).trans hx⟩
end Go.Proofs.Ytdempmpljekehaa
