/- Contracts: products of polynomials. -/
import Derived.Test.YtdngkfedkgiioaaDoorPolyB
namespace Go.Proofs.YtdngkfedkgiioaaDoor
open Go.RowKit Go.Mx

set_option maxHeartbeats 1000000 in
theorem spec_l7Cut_any (B g cap : Nat) (p : List Int) (w : World) (h : Own w B 3 (.slice (some ⟨g, 0, none⟩) p.length cap) (icells p)) (hl : p.length ≤ 1000000) :
    Calls Tryd.prog 62 #[.slice (some ⟨g, 0, none⟩) p.length cap] w fun e w' => ∃ v', e = .returned v' ∧ ReadsI w' v' (trimL p) ∧ Ext w w' := by
  obtain ⟨n, hn⟩ : ∃ n, n = p.length := ⟨_, rfl⟩
  have hcp := h.caps
  unfold maxLen at hcp
  obtain ⟨hcp1, hcp2⟩ := hcp
  rw [← hn] at h hcp1 hl ⊢
  have hle := trimN_le p n
  obtain ⟨q, hq⟩ : ∃ q, q = trimN p n := ⟨_, rfl⟩
  have ht : trimL p = p.take q := by unfold trimL; rw [← hn, ← hq]
  rw [← hq] at hle
  have HM := Lib.hid (And.intro h (And.intro hn (And.intro ht hq)))
  clear h hn ht hq
  go_enter Tryd.func62, Tryd.ntmps62
  go_wp2
  go_loop [3] (fun i => ∃ k : Nat, k ≤ n ∧ i = .int .i64 k ∧ trimN p k = q) (fun i => (intOf i).toNat)
  case atStart => exact ⟨n, Nat.le_refl _, rfl, HM.out.2.2.2.symm⟩
  case round =>
    obtain ⟨k, hk, rfl, hp⟩ := hrel
    have HP := Lib.hid hp
    clear hp
    cases k with
    | zero =>
      have hq0 : q = 0 := by have := HP.out; simpa [trimN] using this.symm
      subst hq0
      have hown := (HM.out.1.take 0 (by omega)).ext (Ext.alloc w (.cells #[] 3))
      have e5 : (icells p).take 0 = icells (trimL p) := by rw [HM.out.2.2.1]; simp [icells]
      rw [e5] at hown
      have hlen := hown.int_len
      have hnews : ∀ j u, (icells (trimL p))[j]? = some u → (w.alloc (.cells #[] 3)).cell? ((⟨g, 0, none⟩ : Addr).add j) = some u := World.ownsRow.cells hown rfl
      have h1 : ∀ u ∈ icells (trimL p), u.oneCell' = true := by intro u hu; simp [icells] at hu; obtain ⟨x, _, rfl⟩ := hu; rfl
      have hl0 : (icells (trimL p)).length = 0 := by rw [icells_length]; exact hlen.symm
      have hl1 : ([] : List Value).length + 0 ≤ maxLen := by unfold maxLen; rw [List.length_nil]; omega
      have hl2 : (([] : List Value).length + 0) * 8 ≤ 140737488355328 := by rw [List.length_nil]; omega
      have HN := Lib.hid (And.intro hnews (And.intro h1 (And.intro hl0 (And.intro hl1 hl2))))
      clear hown e5 hlen hnews h1 hl0 hl1 hl2
      go_wp2_with (at_builtin; refine wpList_append_many rfl (.tmp 18) (.tmp 21) 26 rfl 3 _ _ Tryd.underlying26 infoInt rfl w.heap.size _ [] rfl (Own.lit w 3 [] (by simp)) ⟨g, 0, none⟩ _ _ (icells (trimL p)) rfl HN.out.2.2.1 HN.out.1 HN.out.2.1 HN.out.2.2.2.1 HN.out.2.2.2.2 w (Nat.le_refl _) (by simp) (Ext.alloc _ _) ?_; intro v' w4 hown4 hx4 _ _)
      go_ret
      exact ⟨_, rfl, Own.readsI (by simpa using hown4), hx4⟩
    | succ k =>
      have hcell := HM.out.1.int_at k (by have := HM.out.2.1; omega)
      obtain ⟨y, hy⟩ : ∃ y, y = p.getD k 0 := ⟨_, rfl⟩
      have e1 : ((k + 1 : Nat) : Int) = (k : Int) + 1 := by omega
      rw [e1]
      rw [← hy] at hcell
      have HY := Lib.hid hy
      clear hy e1
      by_cases hy0 : y = 0
      · subst hy0
        go_wp2
        go_round
        case rel => exact ⟨k, by omega, by go_num, by rw [← HP.out]; exact (trimN_zero HY.out.symm).symm⟩
        case measure => simp [intOf]
      · have hyb : (y == 0) = false := by simpa using hy0
        have hq1 : q = k + 1 := by rw [← HP.out]; exact trimN_stop (by rw [← HY.out]; exact hy0)
        subst hq1
        clear hy0
        have hown := (HM.out.1.take (k + 1) (by omega)).ext (Ext.alloc w (.cells #[] 3))
        have e5 : (icells p).take (k + 1) = icells (trimL p) := by rw [HM.out.2.2.1]; simp [icells]
        rw [e5] at hown
        have hlen := hown.int_len
        have hnews : ∀ j u, (icells (trimL p))[j]? = some u → (w.alloc (.cells #[] 3)).cell? ((⟨g, 0, none⟩ : Addr).add j) = some u := World.ownsRow.cells hown rfl
        have h1 : ∀ u ∈ icells (trimL p), u.oneCell' = true := by intro u hu; simp [icells] at hu; obtain ⟨x, _, rfl⟩ := hu; rfl
        have hl0 : (icells (trimL p)).length = (k + 1) := by rw [icells_length]; exact hlen.symm
        have hl1 : ([] : List Value).length + (k + 1) ≤ maxLen := by unfold maxLen; rw [List.length_nil]; omega
        have hl2 : (([] : List Value).length + (k + 1)) * 8 ≤ 140737488355328 := by rw [List.length_nil]; omega
        have HN := Lib.hid (And.intro hnews (And.intro h1 (And.intro hl0 (And.intro hl1 hl2))))
        clear hown e5 hlen hnews h1 hl0 hl1 hl2
        go_wp2_with (at_builtin; refine wpList_append_many rfl (.tmp 18) (.tmp 21) 26 rfl 3 _ _ Tryd.underlying26 infoInt rfl w.heap.size _ [] rfl (Own.lit w 3 [] (by simp)) ⟨g, 0, none⟩ _ _ (icells (trimL p)) rfl HN.out.2.2.1 HN.out.1 HN.out.2.1 HN.out.2.2.2.1 HN.out.2.2.2.2 w (Nat.le_refl _) (by simp) (Ext.alloc _ _) ?_; intro v' w4 hown4 hx4 _ _)
        go_ret
        exact ⟨_, rfl, Own.readsI (by simpa using hown4), hx4⟩
end Go.Proofs.YtdngkfedkgiioaaDoor
