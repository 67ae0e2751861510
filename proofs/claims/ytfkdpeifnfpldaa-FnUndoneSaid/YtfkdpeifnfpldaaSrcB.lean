/- Contract: the reference's counts of sources. -/
import Derived.Test.YtfkdpeifnfpldaaSrcA
namespace Go.Proofs.Ytfkdpeifnfpldaa
open Go.RowKit Go.Cm

set_option maxRecDepth 100000 in
set_option maxHeartbeats 2000000 in
theorem spec_l12Counts_any (K n m N : Nat) (o s : ByteArray) (w : World) (hn : n = m + 1) (hN : N = K ^ m) (hf : CodeFit K n o) (hs : s.size ≤ 8) :
    Calls Try.prog 59 #[.agg #[.int .i64 K, .int .i64 n, .string o], .string s] w fun e w' => ∃ g cap : Nat, e = .returned (.slice (some ⟨g, 0, none⟩) N cap) ∧ Own w' w.heap.size 3 (.slice (some ⟨g, 0, none⟩) N cap) (ncells (countC K N o s.data.toList)) ∧ Ext w w' := by
  have hk2 := hf.k2
  have hk3 := hf.k3
  have hn4 := hf.n4
  have hNK : N * K ≤ 27 := by have := hf.le; rwa [hn, Nat.pow_succ, ← hN] at this
  have hos : o.size = N * K := by rw [hf.size, hn, Nat.pow_succ, hN]
  have hpw : pw (K : Int) m = (N : Int) := by rw [pw_nat, hN]
  have e1 : (n : Int) - 1 = m := by omega
  have hN1 : 0 < N := by rw [hN]; exact Nat.pow_pos (by omega)
  have hN27 : N ≤ 27 := by
    have : N * 1 ≤ N * K := Nat.mul_le_mul_left _ (by omega)
    omega
  have HN := Lib.hid (And.intro hN hn)
  have HF := Lib.hid hf
  clear hN hf hn
  have hmk := run_make_row' (P := Try.prog) 63 3 (.int .i64 0) 8 Try.underlying63 infoInt rfl .i64 .i64 N (by omega) (by omega)
  go_enter Try.func59, Try.ntmps59
  go_wp2_with fail
  refine (spec_l11Power_any K m _ (by omega) (by omega) (by omega) (by omega)).mono ?_
  rintro e w2 ⟨rfl, rfl⟩
  rw [hpw]
  clear hpw e1
  have bo : Blk (w.alloc (.cells #[.int .i64 K, .int .i64 n, .string o] 25)) w.heap.size #[.int .i64 K, .int .i64 n, .string o] := by (repeat (first | (refine Blk.mk' ?_; (simp; done)) | apply Blk.old))
  have hxc : Ext w (w.alloc (.cells #[.int .i64 K, .int .i64 n, .string o] 25)) := Ext.alloc _ _
  have hsz : (w.alloc (.cells #[.int .i64 K, .int .i64 n, .string o] 25)).heap.size = w.heap.size + 1 := by simp
  obtain ⟨wc, hwc⟩ : ∃ wc : World, wc = w.alloc (.cells #[.int .i64 K, .int .i64 n, .string o] 25) := ⟨_, rfl⟩
  rw [← hwc] at bo hxc hsz ⊢
  clear hwc
  have hw0 : Own (wc.alloc (.cells #[] 3)) wc.heap.size 3 (.slice (some ⟨wc.heap.size, 0, none⟩) 0 0) (ncells (List.replicate 0 1)) := by
    simpa [ncells] using Own.lit wc 3 [] (by simp)
  go_wp2
  go_loopw [6, 7] (fun v i wr => ∃ k : Nat, k ≤ N ∧ i = .int .i64 k ∧ Own wr wc.heap.size 3 v (ncells (List.replicate k 1)) ∧ Ext wc wr) (fun _ i _ => N - (intOf i).toNat)
  case atStart => exact ⟨0, by omega, rfl, by simpa [hsz] using hw0, Ext.alloc _ _⟩
  case round =>
    obtain ⟨k, hk, rfl, hown, hx⟩ := hrel
    by_cases hlt : k < N
    · have hownb := hown.ext (Ext.alloc wr (.cells #[.int .i64 1] 3))
      have hxb := Ext.alloced hx (.cells #[.int .i64 1] 3)
      have hcx : (wr.alloc (.cells #[.int .i64 1] 3)).cell? ⟨wr.heap.size, 0, none⟩ = some (.int .i64 1) := by simp
      have hl1 : (ncells (List.replicate k 1)).length + 1 ≤ maxLen := by rw [ncells_length, List.length_replicate]; unfold maxLen; omega
      have hl2 : ((ncells (List.replicate k 1)).length + 1) * 8 ≤ 140737488355328 := by rw [ncells_length, List.length_replicate]; omega
      go_wp2_with (at_builtin; refine wpList_append_one rfl (.tmp 25) (.tmp 26) 63 rfl 3 _ _ Try.underlying63 infoInt rfl wc.heap.size _ _ rfl hownb wr.heap.size _ rfl hcx rfl hl1 hl2 wc rfl hxb ?_; intro v' w4 hown4 hx4 hmv)
      go_roundw
      case rel => exact ⟨k + 1, by omega, by go_num, by rw [List.replicate_succ']; simpa [ncells] using hown4, hx4⟩
      case measure => simp [intOf]; omega
    · have hkN : k = N := by omega
      subst hkN
      have hsh := hown.shape
      rw [ncells_length, List.length_replicate] at hsh
      rcases hsh with ⟨_, hnil⟩ | ⟨g0, cap0, rfl, hg0, _, _, _⟩
      · exfalso
        have := congrArg List.length hnil
        rw [ncells_length] at this
        simp at this
        omega
      have hw1 : Own wr wc.heap.size 3 (.slice (some ⟨g0, 0, none⟩) k cap0) (ncells (countC K k o (s.data.toList.take 0))) := by
        have e : List.replicate k 1 = countC K k o (s.data.toList.take 0) := by simp [countC]
        rw [← e]; exact hown
      clear hown hw0
      obtain ⟨w1, rfl⟩ : ∃ w1 : World, w1 = wr := ⟨_, rfl⟩
      go_wp2
      go_loopw [6, 8] (fun v i wr => ∃ t g cap : Nat, t ≤ s.size ∧ i = .int .i64 t ∧ v = .slice (some ⟨g, 0, none⟩) k cap ∧ Own wr wc.heap.size 3 (.slice (some ⟨g, 0, none⟩) k cap) (ncells (countC K k o (s.data.toList.take t))) ∧ Ext wc wr) (fun _ i _ => s.size - (intOf i).toNat)
      case atStart => exact ⟨0, g0, cap0, by omega, rfl, rfl, by simpa [hsz] using hw1, hx⟩
      case round =>
        clear hw1 hx
        obtain ⟨t, g, cap, ht, rfl, rfl, hown, hx⟩ := hrel
        have hlen := countC_length K k o (s.data.toList.take t)
        have hbnd := countC_bnd (K := K) hNK o (s.data.toList.take t)
        rw [List.length_take, Array.length_toList, show s.data.size = s.size from rfl, Nat.min_eq_left ht] at hbnd
        by_cases hlt : t < s.size
        · have hB := pow27_le (k := t + 1) (by omega)
          rw [Nat.pow_succ] at hB
          have hsn := countC_snoc K k o (s.data.toList.take t) s[t]
          rw [← take_snoc s t hlt] at hsn
          obtain ⟨now, hnow⟩ : ∃ now, now = countC K k o (s.data.toList.take t) := ⟨_, rfl⟩
          obtain ⟨B, hBB⟩ : ∃ B, B = 27 ^ t := ⟨_, rfl⟩
          obtain ⟨c, hc⟩ : ∃ c, c = s[t] := ⟨_, rfl⟩
          rw [← hnow] at hown hlen hbnd hsn
          rw [← hBB] at hB hbnd
          rw [← hc] at hsn
          have HS := Lib.hid (And.intro hsn (And.intro hlen hbnd))
          have HC := Lib.hid hc
          clear hsn hlen hbnd hnow hBB hc
          obtain ⟨w2, rfl⟩ : ∃ w2 : World, w2 = wr := ⟨_, rfl⟩
          have hgl : g < w2.heap.size := by
            rcases hown.shape with ⟨h, _⟩ | ⟨g', cap', h, _, h2, _⟩
            · cases h
            · cases h; exact h2
          have hz0 : Own (w2.alloc (.cells (madeCells #[.int .i64 0] k) 3)) wc.heap.size 3 (.slice (some ⟨w2.heap.size, 0, none⟩) k k) (ncells (allH K k o c now 0)) := by
            rw [allH_zero, ncells_replicate]
            exact (Own.made w2 3 (.int .i64 0) k (by unfold maxLen; omega)).mono (Ext.size hx)
          have hown0 := hown.ext (Ext.alloc w2 (.cells (madeCells #[.int .i64 0] k) 3))
          have hx0 := Ext.alloced hx (.cells (madeCells #[.int .i64 0] k) 3)
          have hgw : wc.heap.size ≤ w2.heap.size := Ext.size hx
          go_wp2
          obtain ⟨z, hz⟩ : ∃ z, z = w2.heap.size := ⟨_, rfl⟩
          rw [← hz] at hz0 hgl hgw ⊢
          clear hown hx hz
          go_loopw [10] (fun i wr => ∃ b : Nat, b ≤ k ∧ i = .int .i64 b ∧ Own wr wc.heap.size 3 (.slice (some ⟨g, 0, none⟩) k cap) (ncells now) ∧ Own wr wc.heap.size 3 (.slice (some ⟨z, 0, none⟩) k k) (ncells (allH K k o c now b)) ∧ Ext wc wr) (fun i _ => k - (intOf i).toNat)
          case atStart => exact ⟨0, by omega, rfl, by simpa [hsz] using hown0, by simpa [hsz] using hz0, hx0⟩
          case round =>
            clear hown0 hz0 hx0
            obtain ⟨b, hb, rfl, hown, hnx, hx⟩ := hrel
            by_cases hlb : b < k
            · obtain ⟨y, hy⟩ : ∃ y, y = now.getD b 0 := ⟨_, rfl⟩
              have hyB : y ≤ B := by rw [hy]; exact HS.out.2.2 b
              have HY := Lib.hid hy
              clear hy
              obtain ⟨w3, rfl⟩ : ∃ w3 : World, w3 = wr := ⟨_, rfl⟩
              go_wp2
              go_loopw [11] (fun i wr => ∃ a : Nat, a ≤ K ∧ i = .int .i64 a ∧ Own wr wc.heap.size 3 (.slice (some ⟨g, 0, none⟩) k cap) (ncells now) ∧ Own wr wc.heap.size 3 (.slice (some ⟨z, 0, none⟩) k k) (ncells (rowH K k o c now b (allH K k o c now b) a)) ∧ Ext wc wr) (fun i _ => K - (intOf i).toNat)
              case atStart => exact ⟨0, by omega, rfl, by simpa [hsz] using hown, by simpa [hsz, rowH_zero] using hnx, hx⟩
              case round =>
                clear hown hnx hx
                obtain ⟨a, ha, rfl, hown, hnx, hx⟩ := hrel
                obtain ⟨c0, c1, c2, -, -, -⟩ := (bo.ext hx).c3
                by_cases hla : a < K
                · have hcb := hown.cell b (by rw [ncells_length, HS.out.2.1]; exact hlb)
                  rw [ncells_at _ _ (by rw [HS.out.2.1]; exact hlb), ← HY.out] at hcb
                  have hrs := rowH_succ K k o c now b (allH K k o c now b) a
                  have hrl : (rowH K k o c now b (allH K k o c now b) a).length = k := by rw [rowH_length, allH_length]
                  have hrb := rowH_bnd (c := c) (o := o) (K := K) (n := k) (v := b) (allH_bnd (c := c) (o := o) (K := K) (n := k) HS.out.2.2 b) HS.out.2.2 a
                  obtain ⟨nx, hnxe⟩ : ∃ nx, nx = rowH K k o c now b (allH K k o c now b) a := ⟨_, rfl⟩
                  rw [← hnxe] at hrs hrl hrb hnx
                  obtain ⟨q, hq⟩ : ∃ q, q = b * K + a := ⟨_, rfl⟩
                  have hqs : q < k * K := by
                    have h1 : (b + 1) * K ≤ k * K := Nat.mul_le_mul_right _ (by omega)
                    rw [Nat.succ_mul] at h1
                    omega
                  have hqo : q < o.size := by omega
                  have hgo : o.data.toList.getD q 0 = o[q] := by
                    rw [List.getD_eq_getElem?_getD, List.getElem?_eq_getElem (by simpa using hqo)]
                    rfl
                  have eq : (b : Int) * (K : Int) + (a : Int) = (q : Int) := by rw [hq]; simp
                  have m0 : (0 : Int) ≤ (b : Int) * (K : Int) := Int.mul_nonneg (by omega) (by omega)
                  have m1 : (b : Int) * (K : Int) ≤ 27 := by omega
                  have b1 := o[q].toNat_lt
                  have b2 := s[t].toNat_lt
                  obtain ⟨j, hj⟩ : ∃ j, j = q % k := ⟨_, rfl⟩
                  have hjk : j < k := by rw [hj]; exact Nat.mod_lt _ (by omega)
                  have er : (q : Int) % (k : Int) = (j : Int) := by rw [hj]; simp
                  have hcj := hnx.cell j (by rw [ncells_length, hrl]; exact hjk)
                  rw [ncells_at _ _ (by rw [hrl]; exact hjk)] at hcj
                  have hfj := hnx.frozen j
                  have hx1 := hrb j
                  have hbK : b * (K * B) ≤ 27 * B := by
                    rw [← Nat.mul_assoc]
                    exact Nat.mul_le_mul_right _ (by have : b * K ≤ k * K := Nat.mul_le_mul_right _ (by omega); omega)
                  have haB : a * B ≤ 3 * B := Nat.mul_le_mul_right _ (by omega)
                  obtain ⟨x, hx0⟩ : ∃ x, x = nx.getD j 0 := ⟨_, rfl⟩
                  rw [← hx0] at hcj hx1
                  have hxb : x ≤ 313810596090 := by omega
                  have hyb : y ≤ 10460353203 := by omega
                  unfold hitL at hrs
                  rw [← hq, hgo, ← hj, ← hx0, ← HY.out] at hrs
                  have HR := Lib.hid hrs
                  clear hrs hrl hrb hnxe hq hgo hj hx0 hx1 hbK haB hos
                  by_cases hcc : o[q] = s[t]
                  · have hn1 : o[q].toNat = s[t].toNat := by rw [hcc]
                    have hrs := HR.out
                    rw [if_pos (by rw [HC.out]; exact hcc)] at hrs
                    have HR2 := Lib.hid hrs
                    clear hrs
                    go_wp2
                    refine wp_region_inv (by kernel_rfl) [.known (.pointer (some ⟨w.heap.size, 2, none⟩)), .known (.string o), .known (.int .i64 b), .known (.pointer (some ⟨w.heap.size, 0, none⟩)), .known (.int .i64 K), .known (.int .i64 ((b : Int) * (K : Int))), .known (.int .i64 a), .known (.int .i64 q), .known (.int .u8 (o[q].toNat : Int)), .known (.string s), .known (.int .i64 t), .known (.int .u8 (s[t].toNat : Int)), .known (.bool true)] rfl (by kernel_rfl) ?_ ?_
                    · intro vs
                      refine ⟨fun w' hx hj => ?_, fun w' hx hj => ?_, fun w' hx hj => ?_, fun w' hx hj => ?_, fun w' hx hj => ?_, fun w' hx hj => ?_, fun w' hx hj => ?_, fun w' hx hj => ?_, fun w' hx hj => ?_, fun w' hx hj => ?_, fun w' hx hj => ?_, fun w' hx hj => ?_, fun w' hx hj => ?_, trivial⟩
                      · clear hj
                        go_simp
                      · have c0 := Ext.cell_some hx c2
                        clear hj
                        go_simp
                      · clear hj
                        go_simp
                      · clear hj
                        go_simp
                      · have c0 := Ext.cell_some hx c0
                        clear hj
                        go_simp
                      · have e1 : IntKind.i64.wrap ((b : Int) * (K : Int)) = (b : Int) * (K : Int) := IntWalk.i64_in _ (by omega)
                        clear hj
                        go_simp
                      · clear hj
                        go_simp
                      · have e1 : IntKind.i64.wrap (q : Int) = q := IntWalk.i64_in _ (by omega)
                        clear hj
                        go_simp
                      · clear hj
                        go_simp
                      · clear hj
                        go_simp
                      · clear hj
                        go_simp
                      · clear hj
                        go_simp
                      · clear hj
                        go_simp
                    · intro vs w5 hx5 hk
                      clear hk
                      go_simp
                      replace hown := hown.ext hx5
                      replace hnx := hnx.ext hx5
                      replace hx := hx.trans hx5
                      replace hcb := hx5.cell_some hcb
                      replace hfj := Ext.frozen_cell hx5 hcj hfj
                      replace hcj := hx5.cell_some hcj
                      clear hx5 c0 c1 c2
                      obtain ⟨c0, c1, c2, -, -, -⟩ := (bo.ext hx).c3
                      go_wp2
                      refine wp_region_tail (by kernel_rfl) 12 [.known (.slice (some ⟨z, 0, none⟩) k k), .known (.int .i64 j), .known (.slice (some ⟨z, 0, none⟩) k k), .known (.int .i64 j), .known (.pointer (some ⟨z, j, none⟩)), .known (.int .i64 x), .known (.slice (some ⟨g, 0, none⟩) k cap), .known (.int .i64 b), .known (.pointer (some ⟨g, b, none⟩)), .known (.int .i64 y), .known (.int .i64 ((x : Int) + (y : Int))), .known (.pointer (some ⟨z, j, none⟩))] rfl (by decide) (by kernel_rfl) (by kernel_rfl) ?_ ?_
                      · intro vs
                        refine ⟨fun w' hx hj => ?_, fun w' hx hj => ?_, fun w' hx hj => ?_, fun w' hx hj => ?_, fun w' hx hj => ?_, fun w' hx hj => ?_, fun w' hx hj => ?_, fun w' hx hj => ?_, fun w' hx hj => ?_, fun w' hx hj => ?_, fun w' hx hj => ?_, fun w' hx hj => ?_, trivial⟩
                        · clear hj
                          go_simp
                        · clear hj
                          go_simp
                        · clear hj
                          go_simp
                        · clear hj
                          go_simp
                        · clear hj
                          go_simp
                        · have c0 := Ext.cell_some hx hcj
                          clear hj
                          go_simp
                        · clear hj
                          go_simp
                        · clear hj
                          go_simp
                        · clear hj
                          go_simp
                        · have c0 := Ext.cell_some hx hcb
                          clear hj
                          go_simp
                        · have e1 : IntKind.i64.wrap ((x : Int) + (y : Int)) = (x : Int) + (y : Int) := IntWalk.i64_in _ (by omega)
                          clear hj
                          go_simp
                        · clear hj
                          go_simp
                      · intro vs w6 hx6 hk
                        clear hk
                        go_simp
                        have hnx6 : Own (w6.setCell ⟨z, j, none⟩ (.int .i64 ((x : Int) + (y : Int)))) wc.heap.size 3 (.slice (some ⟨z, 0, none⟩) k k) (ncells (nx.set j (x + y))) := by
                          have h := (hnx.ext hx6).store j (.int .i64 ((x + y : Nat) : Int))
                          rw [ncells_set] at h
                          exact h
                        have hown6 := Own.other (hown.ext hx6) (g2 := z) (by omega) j (.int .i64 ((x : Int) + (y : Int)))
                        have hxx6 : Ext wc (w6.setCell ⟨z, j, none⟩ (.int .i64 ((x : Int) + (y : Int)))) := Ext.stored (hx.trans hx6) (by show _ ≤ z; omega)
                        replace hfj := Ext.frozen_cell hx6 hcj hfj
                        replace hcj := hx6.cell_some hcj
                        clear hx6 c0 c1 c2 hcb hown hnx hx
                        go_wp2
                        go_roundw
                        case rel => exact ⟨a + 1, by omega, by go_num, hown6, by rw [HR2.out]; exact hnx6, hxx6⟩
                        case measure => simp [intOf]; omega
                  · have hn1 : ¬ o[q].toNat = s[t].toNat := fun h => hcc (UInt8.toNat_inj.1 h)
                    have hrs := HR.out
                    rw [if_neg (by rw [HC.out]; exact hcc)] at hrs
                    have HR2 := Lib.hid hrs
                    clear hrs
                    go_wp2
                    refine wp_region_inv (by kernel_rfl) [.known (.pointer (some ⟨w.heap.size, 2, none⟩)), .known (.string o), .known (.int .i64 b), .known (.pointer (some ⟨w.heap.size, 0, none⟩)), .known (.int .i64 K), .known (.int .i64 ((b : Int) * (K : Int))), .known (.int .i64 a), .known (.int .i64 q), .known (.int .u8 (o[q].toNat : Int)), .known (.string s), .known (.int .i64 t), .known (.int .u8 (s[t].toNat : Int)), .known (.bool false)] rfl (by kernel_rfl) ?_ ?_
                    · intro vs
                      refine ⟨fun w' hx hj => ?_, fun w' hx hj => ?_, fun w' hx hj => ?_, fun w' hx hj => ?_, fun w' hx hj => ?_, fun w' hx hj => ?_, fun w' hx hj => ?_, fun w' hx hj => ?_, fun w' hx hj => ?_, fun w' hx hj => ?_, fun w' hx hj => ?_, fun w' hx hj => ?_, fun w' hx hj => ?_, trivial⟩
                      · clear hj
                        go_simp
                      · have c0 := Ext.cell_some hx c2
                        clear hj
                        go_simp
                      · clear hj
                        go_simp
                      · clear hj
                        go_simp
                      · have c0 := Ext.cell_some hx c0
                        clear hj
                        go_simp
                      · have e1 : IntKind.i64.wrap ((b : Int) * (K : Int)) = (b : Int) * (K : Int) := IntWalk.i64_in _ (by omega)
                        clear hj
                        go_simp
                      · clear hj
                        go_simp
                      · have e1 : IntKind.i64.wrap (q : Int) = q := IntWalk.i64_in _ (by omega)
                        clear hj
                        go_simp
                      · clear hj
                        go_simp
                      · clear hj
                        go_simp
                      · clear hj
                        go_simp
                      · clear hj
                        go_simp
                      · clear hj
                        go_simp
                        omega
                    · intro vs w5 hx5 hk
                      clear hk
                      go_simp
                      replace hown := hown.ext hx5
                      replace hnx := hnx.ext hx5
                      replace hx := hx.trans hx5
                      clear hx5 c0 c1 c2 hcj hfj
                      go_wp2
                      go_roundw
                      case rel => exact ⟨a + 1, by omega, by go_num, hown, by rw [HR2.out]; exact hnx, hx⟩
                      case measure => simp [intOf]; omega
                · have haK : a = K := by omega
                  subst haK
                  go_wp2
                  go_roundw
                  case rel => exact ⟨b + 1, by omega, by go_num, hown, by rw [allH_succ]; exact hnx, hx⟩
                  case measure => simp [intOf]; omega
            · have hbk : b = k := by omega
              subst hbk
              go_wp2
              go_roundw
              case rel => exact ⟨t + 1, z, _, by omega, by go_num, rfl, by rw [HS.out.1]; exact hnx, hx⟩
              case measure => simp [intOf]; omega
        · have htk : t = s.size := by omega
          subst htk
          have hall : s.data.toList.take s.size = s.data.toList := List.take_of_length_le (by simp)
          rw [hall] at hown hlen hbnd
          go_wp2
          go_ret
          exact ⟨g, cap, rfl, hown.mono (by omega), hxc.trans hx⟩
end Go.Proofs.Ytfkdpeifnfpldaa
