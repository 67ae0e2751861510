/- Contract: the program's countSources. -/
import Derived.Test.YtfkdpeifnfpldaaPkC
import Derived.Test.YtfkdpeifnfpldaaPkM
namespace Go.Proofs.Ytfkdpeifnfpldaa
open Go.RowKit Go.Cm

theorem Own.other {w : World} {B : Nat} {E : TypeId} {g n cap : Nat} {fs : List Value} (h : Own w B E (.slice (some ⟨g, 0, none⟩) n cap) fs) {g2 : Nat} (hne : g2 ≠ g) (j : Nat) (u : Value) : Own (w.setCell ⟨g2, j, none⟩ u) B E (.slice (some ⟨g, 0, none⟩) n cap) fs :=
  GB.own (GB.setCell (GB.refl w (some g2)) j u) h (by intro k hk; simp [Value.ownBlock] at hk ⊢; omega)

set_option maxHeartbeats 1000000 in
theorem impl_totalN_any (l : List Nat) (g n cap B M : Nat) (w : World) (hown : Own w B 3 (.slice (some ⟨g, 0, none⟩) n cap) (ncells l)) (hb : Bnd M l) (hn : n ≤ 27) (hM : M ≤ 282429536481) :
    Calls Try.prog 90 #[.slice (some ⟨g, 0, none⟩) n cap] w fun e w' => e = .returned (.int .i64 (l.sum : Nat)) ∧ w = w' := by
  have hl : l.length = n := by have := hown.len; rw [ncells_length] at this; exact this.symm
  go_enter Try.func90, Try.ntmps90
  go_wp2
  go_loop [3, 8] (fun v i => ∃ k : Nat, k ≤ n ∧ i = .int .i64 k ∧ v = .int .i64 (sumTo l k : Nat)) (fun _ i => n - (intOf i).toNat)
  case atStart => exact ⟨0, by omega, rfl, by simp [sumTo]⟩
  case round =>
    obtain ⟨k, hk, rfl, rfl⟩ := hrel
    by_cases hlt : k < n
    · have hc := hown.cell k (by rw [ncells_length, hl]; exact hlt)
      rw [ncells_at _ _ (by rw [hl]; exact hlt)] at hc
      have hs := sumTo_succ l k (by rw [hl]; exact hlt)
      have hle := sumTo_le hb k
      have hy := hb k
      have hkM : k * M ≤ 27 * 282429536481 := Nat.mul_le_mul (by omega) hM
      obtain ⟨y, hyy⟩ : ∃ y, y = l.getD k 0 := ⟨_, rfl⟩
      obtain ⟨x, hx⟩ : ∃ x, x = sumTo l k := ⟨_, rfl⟩
      rw [← hyy] at hc hs hy
      rw [← hx] at hs hle ⊢
      have hxb : x ≤ 7625597484987 := by omega
      have HS := Lib.hid hs
      clear hs hyy hx hle hkM
      go_wp2
      go_round
      case rel => exact ⟨k + 1, by omega, by go_num, by rw [HS.out]; go_num⟩
      case measure => simp [intOf]; omega
    · have hkn : k = n := by omega
      subst hkn
      have e : sumTo l k = l.sum := by rw [← hl]; exact sumTo_all l
      rw [e]
      go_wp2
      go_ret
      exact ⟨rfl, rfl⟩

/-- ones first, then zeros -/
def fillL (N k : Nat) : List Nat := List.replicate k 1 ++ List.replicate (N - k) 0
theorem fillL_set (N k : Nat) (h : k < N) : (fillL N k).set k 1 = fillL N (k + 1) := by
  unfold fillL
  rw [List.set_append_right _ _ (by simp), List.length_replicate, Nat.sub_self, show N - k = (N - (k + 1)) + 1 by omega, List.replicate_succ, List.set_cons_zero, List.replicate_succ', List.append_assoc]
  rfl
theorem fillL_length (N k : Nat) (h : k ≤ N) : (fillL N k).length = N := by simp [fillL]; omega

set_option maxRecDepth 100000 in
set_option maxHeartbeats 2000000 in
theorem impl_countSources_any (K n m N : Nat) (o s : ByteArray) (w : World) (hn : n = m + 1) (hN : N = K ^ m) (hf : CodeFit K n o) (hs : s.size ≤ 8) :
    Calls Try.prog 58 #[.agg #[.int .i64 K, .int .i64 n, .string o], .string s] w fun e w' => e = .returned (.int .i64 ((countC K N o s.data.toList).sum : Nat)) ∧ Ext w w' := by
  have hk2 := hf.k2
  have hk3 := hf.k3
  have hn4 := hf.n4
  have hNK : N * K ≤ 27 := by have := hf.le; rwa [hn, Nat.pow_succ, ← hN] at this
  have hos : o.size = N * K := by rw [hf.size, hn, Nat.pow_succ, hN]
  have hpw : pw (K : Int) m = (N : Int) := by rw [pw_nat, hN]
  have e1 : (n : Int) - 1 = m := by omega
  have hN1 : 0 < N := by rw [hN]; exact Nat.pow_pos (by omega)
  have hN27 : N ≤ 27 := by
    have : N * 1 ≤ N * K := Nat.mul_le_mul_left _ (by omega)
    omega
  have HN := Lib.hid (And.intro hN hn)
  have HF := Lib.hid hf
  clear hN hf hn
  have hmk := run_make_row' (P := Try.prog) 63 3 (.int .i64 0) 8 Try.underlying63 infoInt rfl .i64 .i64 N (by omega) (by omega)
  go_enter Try.func58, Try.ntmps58
  go_wp2_with fail
  refine (impl_power_any K m _ (by omega) (by omega) (by omega) (by omega)).mono ?_
  rintro e w2 ⟨rfl, rfl⟩
  rw [hpw]
  clear hpw e1
  have bo0 : Blk (w.alloc (.cells #[.int .i64 K, .int .i64 n, .string o] 25)) w.heap.size #[.int .i64 K, .int .i64 n, .string o] := by (repeat (first | (refine Blk.mk' ?_; (simp; done)) | apply Blk.old))
  have hw0 := (Own.made (w.alloc (.cells #[.int .i64 K, .int .i64 n, .string o] 25)) 3 (.int .i64 0) N (by unfold maxLen; omega)).mono (B' := w.heap.size) (by simp)
  have hx0 : Ext w ((w.alloc (.cells #[.int .i64 K, .int .i64 n, .string o] 25)).alloc (.cells (madeCells #[.int .i64 0] N) 3)) := by (repeat (first | exact (Ext.refl w) | exact Ext.refl _ | exact Ext.alloc _ _ | refine Ext.alloced ?_ _ | (refine Ext.stored ?_ ?_; rotate_left; (· (first | (show _ ≤ _; omega) | (simp; done) | (simp; omega))))))
  go_wp2
  go_loopw [23] (fun i wr => ∃ k : Nat, k ≤ N ∧ i = .int .i64 k ∧ Own wr w.heap.size 3 (.slice (some ⟨w.heap.size + 1, 0, none⟩) N N) (ncells (fillL N k)) ∧ Ext w wr ∧ Blk wr w.heap.size #[.int .i64 K, .int .i64 n, .string o]) (fun i _ => N - (intOf i).toNat)
  case atStart => exact ⟨0, by omega, rfl, by simpa [fillL, ncells] using hw0, hx0, bo0.old⟩
  case round =>
    obtain ⟨k, hk, rfl, hown, hx, bo⟩ := hrel
    by_cases hlt : k < N
    · have hl := fillL_length N k hk
      have hcell := hown.cell k (by rw [ncells_length, hl]; exact hlt)
      have hfr := hown.frozen k
      have hown' := hown.store k (.int .i64 1)
      rw [show (Value.int .i64 1) = .int .i64 ((1 : Nat) : Int) from rfl, ncells_set, fillL_set N k hlt] at hown'
      have bo' := bo.other (b' := w.heap.size + 1) (i := k) (by omega) (.int .i64 ((1 : Nat) : Int))
      have hx' : Ext w (wr.setCell ⟨w.heap.size + 1, k, none⟩ (.int .i64 ((1 : Nat) : Int))) := Ext.stored hx (by show _ ≤ w.heap.size + 1; omega)
      go_wp2
      go_roundw
      case rel => exact ⟨k + 1, by omega, by go_num, hown', hx', bo'⟩
      case measure => simp [intOf]; omega
    · have hkN : k = N := by omega
      subst hkN
      have hw1 : Own wr w.heap.size 3 (.slice (some ⟨w.heap.size + 1, 0, none⟩) k k) (ncells (countC K k o (s.data.toList.take 0))) := by
        have e : fillL k k = countC K k o (s.data.toList.take 0) := by simp [fillL, countC]
        rw [← e]; exact hown
      clear hown hw0 hx0 bo0
      obtain ⟨w1, rfl⟩ : ∃ w1 : World, w1 = wr := ⟨_, rfl⟩
      go_wp2
      go_loopw [6, 32] (fun v i wr => ∃ t g : Nat, t ≤ s.size ∧ i = .int .i64 t ∧ v = .slice (some ⟨g, 0, none⟩) k k ∧ w.heap.size < g ∧ Own wr w.heap.size 3 (.slice (some ⟨g, 0, none⟩) k k) (ncells (countC K k o (s.data.toList.take t))) ∧ Ext w wr ∧ Blk wr w.heap.size #[.int .i64 K, .int .i64 n, .string o]) (fun _ i _ => s.size - (intOf i).toNat)
      case atStart => exact ⟨0, w.heap.size + 1, by omega, rfl, rfl, by omega, hw1, hx, bo⟩
      case round =>
        clear hw1 hx bo
        obtain ⟨t, g, ht, rfl, rfl, hg, hown, hx, bo⟩ := hrel
        have hlen := countC_length K k o (s.data.toList.take t)
        have hbnd := countC_bnd (K := K) hNK o (s.data.toList.take t)
        rw [List.length_take, Array.length_toList, show s.data.size = s.size from rfl, Nat.min_eq_left ht] at hbnd
        by_cases hlt : t < s.size
        · have hB := pow27_le (k := t + 1) (by omega)
          rw [Nat.pow_succ] at hB
          have hsn := countC_snoc K k o (s.data.toList.take t) s[t]
          rw [← take_snoc s t hlt] at hsn
          obtain ⟨now, hnow⟩ : ∃ now, now = countC K k o (s.data.toList.take t) := ⟨_, rfl⟩
          obtain ⟨B, hBB⟩ : ∃ B, B = 27 ^ t := ⟨_, rfl⟩
          obtain ⟨c, hc⟩ : ∃ c, c = s[t] := ⟨_, rfl⟩
          rw [← hnow] at hown hlen hbnd hsn
          rw [← hBB] at hB hbnd
          rw [← hc] at hsn
          have HS := Lib.hid (And.intro hsn (And.intro hlen hbnd))
          have HC := Lib.hid hc
          clear hsn hlen hbnd hnow hBB hc
          obtain ⟨w2, rfl⟩ : ∃ w2 : World, w2 = wr := ⟨_, rfl⟩
          have hgl : g < w2.heap.size := by
            rcases hown.shape with ⟨h, _⟩ | ⟨g', cap', h, _, h2, _⟩
            · cases h
            · cases h; exact h2
          have hz0 : Own (w2.alloc (.cells (madeCells #[.int .i64 0] k) 3)) w.heap.size 3 (.slice (some ⟨w2.heap.size, 0, none⟩) k k) (ncells (allH K k o c now 0)) := by
            rw [allH_zero, ncells_replicate]
            exact (Own.made w2 3 (.int .i64 0) k (by unfold maxLen; omega)).mono (Ext.size hx)
          have hown0 := hown.ext (Ext.alloc w2 (.cells (madeCells #[.int .i64 0] k) 3))
          have hx0 := Ext.alloced hx (.cells (madeCells #[.int .i64 0] k) 3)
          have bo0 := bo.old (o := .cells (madeCells #[.int .i64 0] k) 3)
          have hgw : w.heap.size < w2.heap.size := by omega
          go_wp2
          obtain ⟨z, hz⟩ : ∃ z, z = w2.heap.size := ⟨_, rfl⟩
          rw [← hz] at hz0 hgl hgw ⊢
          clear hown hx bo hz
          go_loopw [39] (fun i wr => ∃ b : Nat, b ≤ k ∧ i = .int .i64 b ∧ Own wr w.heap.size 3 (.slice (some ⟨g, 0, none⟩) k k) (ncells now) ∧ Own wr w.heap.size 3 (.slice (some ⟨z, 0, none⟩) k k) (ncells (allH K k o c now b)) ∧ Ext w wr ∧ Blk wr w.heap.size #[.int .i64 K, .int .i64 n, .string o]) (fun i _ => k - (intOf i).toNat)
          case atStart => exact ⟨0, by omega, rfl, hown0, hz0, hx0, bo0⟩
          case round =>
            clear hown0 hz0 hx0 bo0
            obtain ⟨b, hb, rfl, hown, hnx, hx, bo⟩ := hrel
            by_cases hlb : b < k
            · have hcb := hown.cell b (by rw [ncells_length, HS.out.2.1]; exact hlb)
              rw [ncells_at _ _ (by rw [HS.out.2.1]; exact hlb)] at hcb
              obtain ⟨y, hy⟩ : ∃ y, y = now.getD b 0 := ⟨_, rfl⟩
              rw [← hy] at hcb
              have hyB : y ≤ B := by rw [hy]; exact HS.out.2.2 b
              obtain ⟨c0, c1, c2, -, -, -⟩ := bo.c3
              have HY := Lib.hid hy
              clear hy
              obtain ⟨w3, rfl⟩ : ∃ w3 : World, w3 = wr := ⟨_, rfl⟩
              go_wp2
              go_loopw [46] (fun i wr => ∃ a : Nat, a ≤ K ∧ i = .int .i64 a ∧ Own wr w.heap.size 3 (.slice (some ⟨g, 0, none⟩) k k) (ncells now) ∧ Own wr w.heap.size 3 (.slice (some ⟨z, 0, none⟩) k k) (ncells (rowH K k o c now b (allH K k o c now b) a)) ∧ Ext w wr ∧ Blk wr w.heap.size #[.int .i64 K, .int .i64 n, .string o]) (fun i _ => K - (intOf i).toNat)
              case atStart => exact ⟨0, by omega, rfl, hown, hnx, hx, bo⟩
              case round =>
                clear hown hnx hx bo c0 c1 c2 hcb
                obtain ⟨a, ha, rfl, hown, hnx, hx, bo⟩ := hrel
                obtain ⟨c0, c1, c2, -, -, -⟩ := bo.c3
                by_cases hla : a < K
                · have hrs := rowH_succ K k o c now b (allH K k o c now b) a
                  have hrl : (rowH K k o c now b (allH K k o c now b) a).length = k := by rw [rowH_length, allH_length]
                  have hrb := rowH_bnd (c := c) (o := o) (K := K) (n := k) (v := b) (allH_bnd (c := c) (o := o) (K := K) (n := k) HS.out.2.2 b) HS.out.2.2 a
                  obtain ⟨nx, hnxe⟩ : ∃ nx, nx = rowH K k o c now b (allH K k o c now b) a := ⟨_, rfl⟩
                  rw [← hnxe] at hrs hrl hrb hnx
                  obtain ⟨q, hq⟩ : ∃ q, q = b * K + a := ⟨_, rfl⟩
                  have hqs : q < k * K := by
                    have h1 : (b + 1) * K ≤ k * K := Nat.mul_le_mul_right _ (by omega)
                    rw [Nat.succ_mul] at h1
                    omega
                  have hqo : q < o.size := by omega
                  have hgo : o.data.toList.getD q 0 = o[q] := by
                    rw [List.getD_eq_getElem?_getD, List.getElem?_eq_getElem (by simpa using hqo)]
                    rfl
                  have eq : (b : Int) * (K : Int) + (a : Int) = (q : Int) := by rw [hq]; simp
                  have m0 : (0 : Int) ≤ (b : Int) * (K : Int) := Int.mul_nonneg (by omega) (by omega)
                  have m1 : (b : Int) * (K : Int) ≤ 27 := by omega
                  have b1 := o[q].toNat_lt
                  have b2 := s[t].toNat_lt
                  obtain ⟨j, hj⟩ : ∃ j, j = q % k := ⟨_, rfl⟩
                  have hjk : j < k := by rw [hj]; exact Nat.mod_lt _ (by omega)
                  have er : (q : Int) % (k : Int) = (j : Int) := by rw [hj]; simp
                  have hcj := hnx.cell j (by rw [ncells_length, hrl]; exact hjk)
                  rw [ncells_at _ _ (by rw [hrl]; exact hjk)] at hcj
                  have hfj := hnx.frozen j
                  have hx1 := hrb j
                  have hbK : b * (K * B) ≤ 27 * B := by
                    rw [← Nat.mul_assoc]
                    exact Nat.mul_le_mul_right _ (by have : b * K ≤ k * K := Nat.mul_le_mul_right _ (by omega); omega)
                  have haB : a * B ≤ 3 * B := Nat.mul_le_mul_right _ (by omega)
                  obtain ⟨x, hx0⟩ : ∃ x, x = nx.getD j 0 := ⟨_, rfl⟩
                  rw [← hx0] at hcj hx1
                  have hxb : x ≤ 313810596090 := by omega
                  have hyb : y ≤ 10460353203 := by omega
                  unfold hitL at hrs
                  rw [← hq, hgo, ← hj, ← hx0, ← HY.out] at hrs
                  have hnx' : Own (wr.setCell ⟨z, j, none⟩ (.int .i64 ((x : Int) + (y : Int)))) w.heap.size 3 (.slice (some ⟨z, 0, none⟩) k k) (ncells (nx.set j (x + y))) := by
                    have h := hnx.store j (.int .i64 ((x + y : Nat) : Int))
                    rw [ncells_set] at h
                    exact h
                  have hown' := Own.other hown (g2 := z) (by omega) j (.int .i64 ((x : Int) + (y : Int)))
                  have bo' := bo.other (b' := z) (i := j) (by omega) (.int .i64 ((x : Int) + (y : Int)))
                  have hx' : Ext w (wr.setCell ⟨z, j, none⟩ (.int .i64 ((x : Int) + (y : Int)))) := Ext.stored hx (by show _ ≤ z; omega)
                  have HR := Lib.hid hrs
                  clear hrs hrl hrb hnxe hq hgo hj hx0 hx1 hbK haB hos
                  by_cases hcc : o[q] = s[t]
                  · have hn1 : o[q].toNat = s[t].toNat := by rw [hcc]
                    have hrs := HR.out
                    rw [if_pos (by rw [HC.out]; exact hcc)] at hrs
                    have HR2 := Lib.hid hrs
                    clear hrs
                    go_wp2
                    refine wp_region_inv (by kernel_rfl) [.known (.pointer (some ⟨w.heap.size, 2, none⟩)), .known (.string o), .known (.int .i64 b), .known (.pointer (some ⟨w.heap.size, 0, none⟩)), .known (.int .i64 K), .known (.int .i64 ((b : Int) * (K : Int))), .known (.int .i64 a), .known (.int .i64 q), .known (.int .u8 (o[q].toNat : Int)), .known (.string s), .known (.int .i64 t), .known (.int .u8 (s[t].toNat : Int)), .known (.bool true)] rfl (by kernel_rfl) ?_ ?_
                    · intro vs
                      refine ⟨fun w' hx hj => ?_, fun w' hx hj => ?_, fun w' hx hj => ?_, fun w' hx hj => ?_, fun w' hx hj => ?_, fun w' hx hj => ?_, fun w' hx hj => ?_, fun w' hx hj => ?_, fun w' hx hj => ?_, fun w' hx hj => ?_, fun w' hx hj => ?_, fun w' hx hj => ?_, fun w' hx hj => ?_, trivial⟩
                      · clear hj
                        go_simp
                      · have c0 := Ext.cell_some hx c2
                        clear hj
                        go_simp
                      · clear hj
                        go_simp
                      · clear hj
                        go_simp
                      · have c0 := Ext.cell_some hx c0
                        clear hj
                        go_simp
                      · have e1 : IntKind.i64.wrap ((b : Int) * (K : Int)) = (b : Int) * (K : Int) := IntWalk.i64_in _ (by omega)
                        clear hj
                        go_simp
                      · clear hj
                        go_simp
                      · have e1 : IntKind.i64.wrap (q : Int) = q := IntWalk.i64_in _ (by omega)
                        clear hj
                        go_simp
                      · clear hj
                        go_simp
                      · clear hj
                        go_simp
                      · clear hj
                        go_simp
                      · clear hj
                        go_simp
                      · clear hj
                        go_simp
                    · intro vs w5 hx5 hk
                      clear hk
                      go_simp
                      have hcj5 := hx5.cell_some hcj
                      have hfj5 := Ext.frozen_cell hx5 hcj hfj
                      have hnx5 : Own (w5.setCell ⟨z, j, none⟩ (.int .i64 ((x : Int) + (y : Int)))) w.heap.size 3 (.slice (some ⟨z, 0, none⟩) k k) (ncells (nx.set j (x + y))) := by
                        have h := (hnx.ext hx5).store j (.int .i64 ((x + y : Nat) : Int))
                        rw [ncells_set] at h
                        exact h
                      have hown5 := Own.other (hown.ext hx5) (g2 := z) (by omega) j (.int .i64 ((x : Int) + (y : Int)))
                      have bo5 := (bo.ext hx5).other (b' := z) (i := j) (by omega) (.int .i64 ((x : Int) + (y : Int)))
                      have hxx5 : Ext w (w5.setCell ⟨z, j, none⟩ (.int .i64 ((x : Int) + (y : Int)))) := Ext.stored (hx.trans hx5) (by show _ ≤ z; omega)
                      obtain ⟨c0', c1', c2', -, -, -⟩ := (bo.ext hx5).c3
                      clear hx5 hnx' hown' bo' hx' c0 c1 c2 hcj hfj hown hnx hx bo
                      go_wp2
                      go_roundw
                      case rel => exact ⟨a + 1, by omega, by go_num, hown5, by rw [HR2.out]; exact hnx5, hxx5, bo5⟩
                      case measure => simp [intOf]; omega
                  · have hn1 : ¬ o[q].toNat = s[t].toNat := fun h => hcc (UInt8.toNat_inj.1 h)
                    have hrs := HR.out
                    rw [if_neg (by rw [HC.out]; exact hcc)] at hrs
                    have HR2 := Lib.hid hrs
                    clear hrs hnx' hown' bo' hx'
                    go_wp2
                    refine wp_region_inv (by kernel_rfl) [.known (.pointer (some ⟨w.heap.size, 2, none⟩)), .known (.string o), .known (.int .i64 b), .known (.pointer (some ⟨w.heap.size, 0, none⟩)), .known (.int .i64 K), .known (.int .i64 ((b : Int) * (K : Int))), .known (.int .i64 a), .known (.int .i64 q), .known (.int .u8 (o[q].toNat : Int)), .known (.string s), .known (.int .i64 t), .known (.int .u8 (s[t].toNat : Int)), .known (.bool false)] rfl (by kernel_rfl) ?_ ?_
                    · intro vs
                      refine ⟨fun w' hx hj => ?_, fun w' hx hj => ?_, fun w' hx hj => ?_, fun w' hx hj => ?_, fun w' hx hj => ?_, fun w' hx hj => ?_, fun w' hx hj => ?_, fun w' hx hj => ?_, fun w' hx hj => ?_, fun w' hx hj => ?_, fun w' hx hj => ?_, fun w' hx hj => ?_, fun w' hx hj => ?_, trivial⟩
                      · clear hj
                        go_simp
                      · have c0 := Ext.cell_some hx c2
                        clear hj
                        go_simp
                      · clear hj
                        go_simp
                      · clear hj
                        go_simp
                      · have c0 := Ext.cell_some hx c0
                        clear hj
                        go_simp
                      · have e1 : IntKind.i64.wrap ((b : Int) * (K : Int)) = (b : Int) * (K : Int) := IntWalk.i64_in _ (by omega)
                        clear hj
                        go_simp
                      · clear hj
                        go_simp
                      · have e1 : IntKind.i64.wrap (q : Int) = q := IntWalk.i64_in _ (by omega)
                        clear hj
                        go_simp
                      · clear hj
                        go_simp
                      · clear hj
                        go_simp
                      · clear hj
                        go_simp
                      · clear hj
                        go_simp
                      · clear hj
                        go_simp
                        omega
                    · intro vs w5 hx5 hk
                      clear hk
                      go_simp
                      replace hown := hown.ext hx5
                      replace hnx := hnx.ext hx5
                      replace hx := hx.trans hx5
                      replace bo := bo.ext hx5
                      clear hx5 c0 c1 c2
                      go_wp2
                      go_roundw
                      case rel => exact ⟨a + 1, by omega, by go_num, hown, by rw [HR2.out]; exact hnx, hx, bo⟩
                      case measure => simp [intOf]; omega
                · have haK : a = K := by omega
                  subst haK
                  go_wp2
                  go_roundw
                  case rel => exact ⟨b + 1, by omega, by go_num, hown, by rw [allH_succ]; exact hnx, hx, bo⟩
                  case measure => simp [intOf]; omega
            · have hbk : b = k := by omega
              subst hbk
              go_wp2
              go_roundw
              case rel => exact ⟨t + 1, z, by omega, by go_num, rfl, by omega, by rw [HS.out.1]; exact hnx, hx, bo⟩
              case measure => simp [intOf]; omega
        · have htk : t = s.size := by omega
          subst htk
          have hall : s.data.toList.take s.size = s.data.toList := List.take_of_length_le (by simp)
          rw [hall] at hown hlen hbnd
          have hB := pow27_le (k := s.size) hs
          go_wp2_with fail
          refine (impl_totalN_any _ g k k _ _ _ hown hbnd (by omega) hB).mono ?_
          rintro e w4 ⟨rfl, rfl⟩
          go_wp2
          go_ret
          exact ⟨rfl, hx⟩
end Go.Proofs.Ytfkdpeifnfpldaa
