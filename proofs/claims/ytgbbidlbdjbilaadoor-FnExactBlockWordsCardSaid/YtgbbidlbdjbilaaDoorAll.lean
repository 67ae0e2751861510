/- Contract: all words of a length, by the reference. -/
import Derived.Test.YtgbbidlbdjbilaaDoorWordA
namespace Go.Cm
/-- a word with each of the first letters behind it -/
def ext1 (u : List UInt8) (x : Nat) : List (List UInt8) := (List.range x).map fun y => u ++ [letN y]
theorem ext1_succ (u : List UInt8) (x : Nat) : ext1 u (x + 1) = ext1 u x ++ [u ++ [letN x]] := by simp [ext1, List.range_succ]
/-- .. of the first j words -/
def midL (K i j : Nat) : List (List UInt8) := ((wordsL K i).take j).flatMap fun u => ext1 u K
theorem midL_succ (K i j : Nat) (u : List UInt8) (h : (wordsL K i)[j]? = some u) : midL K i (j + 1) = midL K i j ++ ext1 u K := by
  unfold midL
  rw [List.take_add_one, h]
  simp
theorem midL_all (K i : Nat) (hK : 0 < K) : midL K i (K ^ i) = wordsL K (i + 1) := by
  unfold midL
  rw [List.take_of_length_le (by simp [wordsL]), wordsL_succ K i hK]
  rfl
theorem midL_length (K i j : Nat) (hj : j ≤ K ^ i) : (midL K i j).length = j * K := by
  unfold midL
  rw [List.length_flatMap]
  have : ((wordsL K i).take j).map (fun u => (ext1 u K).length) = List.replicate j K := by
    apply List.ext_getElem
    · simp [wordsL]; omega
    · intro a h1 h2; simp [ext1]
  rw [this, List.sum_replicate_nat]
end Go.Cm
namespace Go.Proofs.YtgbbidlbdjbilaaDoor
open Go.RowKit Go.Cm

set_option maxRecDepth 100000 in
set_option maxHeartbeats 1000000 in
theorem spec_l2All_any (K n : Nat) (w : World) (hK0 : 0 < K) (hK : K ≤ 3) (hn : n ≤ 16) :
    Calls Tryd.prog 27 #[.int .i64 K, .int .i64 n] w fun e w' => ∃ v, e = .returned v ∧ Own w' w.heap.size 9 v (scells (wordsL K n)) ∧ Ext w w' := by
  go_enter Tryd.func27, Tryd.ntmps27
  go_wp2
  have hB0 : Own (w.alloc (.cells #[.string ⟨#[]⟩] 9)) w.heap.size 9 (.slice (some ⟨w.heap.size, 0, none⟩) 1 1) (scells (wordsL K 0)) := Own.lit w 9 [.string ⟨#[]⟩] (by simp [maxLen])
  go_loopw [5, 6, 7, 8, 9] (fun v i _ _ _ wr => ∃ k : Nat, k ≤ n ∧ i = .int .i64 k ∧ Own wr w.heap.size 9 v (scells (wordsL K k)) ∧ Ext w wr) (fun _ i _ _ _ _ => n - (intOf i).toNat)
  case atStart => exact ⟨0, by omega, rfl, hB0, Ext.alloc _ _⟩
  case round =>
    obtain ⟨k, hk, rfl, hown, hx⟩ := hrel
    by_cases hlt : k < n
    · have hlen : (scells (wordsL K k)).length = K ^ k := by simp [scells, wordsL]
      have hNp : 0 < K ^ k := Nat.pow_pos hK0
      have hNb : K ^ k ≤ 43046721 := by
        have h1 : K ^ k ≤ 3 ^ k := Nat.pow_le_pow_left hK k
        have h2 : 3 ^ k ≤ 3 ^ 16 := Nat.pow_le_pow_right (by omega) (by omega)
        have h3 : (3 : Nat) ^ 16 = 43046721 := by decide
        omega
      obtain ⟨N, hN⟩ : ∃ N, N = K ^ k := ⟨_, rfl⟩
      rw [← hN] at hlen hNp hNb
      have hsh := hown.shape
      rw [hlen] at hsh
      rcases hsh with ⟨_, hnil⟩ | ⟨g, cap, hv, _, hgs, _, _⟩
      · exfalso
        rw [hnil] at hlen
        simp at hlen
        omega
      subst hv
      have HN := Lib.hid (And.intro hN hlen)
      clear hN hlen
      have hB1 : Own (wr.alloc (.cells #[] 9)) wr.heap.size 9 (.slice (some ⟨wr.heap.size, 0, none⟩) 0 0) [] := Own.lit wr 9 [] (by simp)
      have hxa := hx.trans (Ext.alloc wr (.cells #[] 9))
      have howna := hown.ext (Ext.alloc wr (.cells #[] 9))
      have hBw : w.heap.size ≤ wr.heap.size := hx.size
      have hB2 := hB1.mono hBw
      have hg0 : ∀ j : Nat, (Value.slice (some ⟨g, 0, none⟩) N cap).ownBlock = some j → (Value.slice (some ⟨wr.heap.size, 0, none⟩) 0 0).ownBlock ≠ some j := by
        intro j hj
        simp [Value.ownBlock] at hj ⊢
        omega
      clear hown hx hB0 hB1
      obtain ⟨wo, rfl⟩ : ∃ wo : World, wo = wr := ⟨_, rfl⟩
      go_wp2
      go_loopw [7, 8, 9] (fun v j _ wm => ∃ q : Nat, q ≤ N ∧ j = .int .i64 q ∧ Own wm w.heap.size 9 v (scells (midL K k q)) ∧ Grew (wo.alloc (.cells #[] 9)) (.slice (some ⟨wo.heap.size, 0, none⟩) 0 0) wm v ∧ Ext w wm) (fun _ j _ _ => N - (intOf j).toNat)
      case atStart => exact ⟨0, by omega, rfl, by simpa [midL, scells] using hB2, Grew.refl _ _, hxa⟩
      case round =>
        obtain ⟨q, hq, rfl, hown, hgr, hx⟩ := hrel
        by_cases hltq : q < N
        · have hlw : q < (wordsL K k).length := by have := HN.out.2; simp [scells] at this; omega
          obtain ⟨u, hu⟩ : ∃ u, u = (wordsL K k)[q] := ⟨_, rfl⟩
          have huq : (wordsL K k)[q]? = some u := by rw [hu]; exact List.getElem?_eq_getElem hlw
          have hsu : (scells (wordsL K k))[q]? = some (.string (mkS u)) := by simp [scells, huq]
          have hul : u.length ≤ 16 := by rw [hu]; simp only [wordsL, List.getElem_map]; rw [wordL_length]; omega
          have hmid := midL_succ K k q u huq
          have hml := midL_length K k q (by have := HN.out.1; omega)
          have HU := Lib.hid (And.intro hsu (And.intro hmid (And.intro hml trivial)))
          clear hu huq hsu hmid hml hlw
          obtain ⟨wp, rfl⟩ : ∃ wp : World, wp = wr := ⟨_, rfl⟩
          go_wp2
          go_loopw [7, 9] (fun v x wi => ∃ y : Nat, y ≤ K ∧ x = .int .i64 y ∧ Own wi w.heap.size 9 v (scells (midL K k q ++ ext1 u y)) ∧ Grew (wo.alloc (.cells #[] 9)) (.slice (some ⟨wo.heap.size, 0, none⟩) 0 0) wi v ∧ Ext w wi) (fun _ x _ => K - (intOf x).toNat)
          case atStart => exact ⟨0, by omega, rfl, by simpa [ext1] using hown, hgr, hx⟩
          case round =>
            obtain ⟨y, hy, rfl, hown, hgr, hx⟩ := hrel
            by_cases hlty : y < K
            · have hcell : wr.cell? ⟨g, q, none⟩ = some (.string (mkS u)) := by
                have h1 := (hgr.own howna hg0).cell q (by rw [HN.out.2]; exact hltq)
                rw [h1]
                have h2 := HU.out.1
                rw [List.getElem?_eq_getElem (by rw [HN.out.2]; exact hltq)] at h2
                exact h2
              have habc := abc_at y (by omega)
              have hcat := mkS_append u [letN y]
              go_wp2
              refine wp_region_tail (by kernel_rfl) 11 [.known u7, .known (.slice (some ⟨g, 0, none⟩) N cap), .known (.int .i64 q), .known (.pointer (some ⟨g, q, none⟩)), .known (.string (mkS u)), .known (.int .i64 y), .known (.int .i64 y), .known (.int .i64 (y + 1)), .known (.string (mkS [letN y])), .known (.string (mkS (u ++ [letN y]))), .box (.string (mkS (u ++ [letN y])))] rfl (by decide) (by kernel_rfl) (by kernel_rfl) ?_ ?_
              · intro vs
                refine ⟨fun w' hx hj => ?_, fun w' hx hj => ?_, fun w' hx hj => ?_, fun w' hx hj => ?_, fun w' hx hj => ?_, fun w' hx hj => ?_, fun w' hx hj => ?_, fun w' hx hj => ?_, fun w' hx hj => ?_, fun w' hx hj => ?_, fun w' hx hj => ?_, trivial⟩
                · clear hj
                  go_simp
                · clear hj
                  go_simp
                · clear hj
                  go_simp
                · clear hj
                  go_simp
                · have c0 := Ext.cell_some hx hcell
                  clear hj
                  go_simp
                · clear hj
                  go_simp
                · clear hj
                  go_simp
                · have e1 : IntKind.i64.wrap ((y : Int) + 1) = y + 1 := IntWalk.i64_in _ (by omega)
                  clear hj
                  go_simp
                · have p1 : (0 : Int) ≤ (y : Int) + 1 := by omega
                  have p2 : (y : Int) + 1 ≤ 3 := by omega
                  have p3 : (y : Int) ≤ y + 1 := by omega
                  clear hj
                  go_simp
                · have p1 : ¬ 9223372036854775807 < (mkS u).size + (mkS [letN y]).size := by rw [mkS_size, mkS_size]; simp; omega
                  clear hj
                  go_simp
                · clear hj
                  go_simp
                  exact boxOf_new _ _ _
              · intro vs w3 hx3 hk
                have k10 : BoxOf (.string (mkS (u ++ [letN y]))) (vs 10) w3 := hk 10 _ rfl
                clear hk
                go_simp
                obtain ⟨bx, hbx, hcx⟩ := k10
                rw [hbx]
                clear hbx
                have hownb := hown.ext hx3
                have hgrb := hgr.ext hx3
                have hxb := hx.trans hx3
                have hln : (scells (midL K k q ++ ext1 u y)).length = q * K + y := by
                  have := HU.out.2.2.1
                  simp [scells, ext1, this]
                have hqK : q * K + y ≤ N * K := by
                  have h1 : (q + 1) * K ≤ N * K := Nat.mul_le_mul_right K (by omega)
                  rw [Nat.succ_mul] at h1
                  omega
                have hNK : N * K ≤ 43046721 * 3 := Nat.mul_le_mul hNb hK
                have hl1 : (scells (midL K k q ++ ext1 u y)).length + 1 ≤ maxLen := by unfold maxLen; omega
                have hl2 : ((scells (midL K k q ++ ext1 u y)).length + 1) * 16 ≤ 140737488355328 := by omega
                clear hln hqK hNK hown hgr hx hx3 hcell habc hcat
                go_wp2_with (at_builtin; refine wpList_append_one rfl (.tmp 28) (.tmp 38) 22 rfl 9 _ _ Tryd.underlying22 infoStr rfl w.heap.size _ _ rfl hownb bx _ rfl hcx rfl hl1 hl2 w rfl hxb ?_; intro v' w4 hown4 hx4 hmv)
                have hgr4 := hgrb.step hmv
                go_roundw
                case rel => exact ⟨y + 1, by omega, by go_num, by rw [ext1_succ]; simpa [scells] using hown4, hgr4, hx4⟩
                case measure => simp [intOf]; omega
            · have : y = K := by omega
              subst this
              go_wp2
              go_roundw
              case rel => exact ⟨q + 1, by omega, by go_num, by rw [HU.out.2.1]; exact hown, hgr, hx⟩
              case measure => simp [intOf]; omega
        · have : q = N := by omega
          subst this
          go_wp2
          go_roundw
          case rel => exact ⟨k + 1, by omega, by go_num, by have h1 := HN.out.1; rw [h1, midL_all K k hK0] at hown; exact hown, hx⟩
          case measure => simp [intOf]; omega
    · have : k = n := by omega
      subst this
      go_wp2
      go_ret
      exact ⟨_, rfl, hown, hx⟩
end Go.Proofs.YtgbbidlbdjbilaaDoor
