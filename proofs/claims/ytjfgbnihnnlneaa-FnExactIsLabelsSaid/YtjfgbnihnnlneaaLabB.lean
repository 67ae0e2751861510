/- Contracts of the laws' own helpers on labelled graphs: copies and comparisons of arcs and graphs. -/
import Derived.Test.YtjfgbnihnnlneaaLabA
namespace Go
open Go.RowKit
theorem ReadsArcs.at {w : World} {a : Option Addr} {n c : Nat} {ar : List (Int × Int × Int)} (h : ReadsArcs w (.slice a n c) ar) (i : Nat) (hi : i < ar.length) :
    ∃ b o x y z, a = some ⟨b, o, none⟩ ∧ ar[i]? = some (x, y, z) ∧ w.cell? ⟨b, o + i * 3, none⟩ = some (.int .i64 x) ∧ w.cell? ⟨b, o + i * 3 + 1, none⟩ = some (.int .i64 y) ∧ w.cell? ⟨b, o + i * 3 + 2, none⟩ = some (.int .i64 z) := by
  obtain ⟨a', cap, hv, h1, h2, h3⟩ := h
  injection hv with e1 e2 e3
  obtain ⟨b, o, ha, k0, k1, k2⟩ := h3 i hi
  exact ⟨b, o, ar[i].1, ar[i].2.1, ar[i].2.2, e1.trans ha, by rw [List.getElem?_eq_getElem hi], k0, k1, k2⟩
theorem ReadsArcs.slice {w : World} {v : Value} {ar : List (Int × Int × Int)} (h : ReadsArcs w v ar) : ∃ a c, v = .slice a ar.length c := by
  obtain ⟨a', cap, hv, _⟩ := h
  exact ⟨a', cap, hv⟩
theorem ReadsArcs.len {w : World} {a : Option Addr} {n c : Nat} {ar : List (Int × Int × Int)} (h : ReadsArcs w (.slice a n c) ar) : n = ar.length ∧ n ≤ c ∧ c ≤ 9223372036854775807 := by
  obtain ⟨a', cap, hv, h1, h2, h3⟩ := h
  injection hv with e1 e2 e3
  unfold maxLen at h2
  omega
end Go
namespace Go.Proofs.Ytjfgbnihnnlneaa
open Go.RowKit
theorem toArc3 (x y z : Int) (w : World) : Calls Try.prog 20 #[.agg #[.int .i64 x, .int .i64 y, .int .i64 z]] w fun e w' => e = .returned (.agg #[.int .i64 x, .int .i64 y, .int .i64 z]) ∧ Ext w w' := toArc_any (x, y, z) w
theorem eqArc3 (x y z x' y' z' : Int) (w : World) : Calls Try.prog 21 #[.agg #[.int .i64 x, .int .i64 y, .int .i64 z], .agg #[.int .i64 x', .int .i64 y', .int .i64 z']] w fun e w' => e = .returned (.bool (decide ((x, y, z) = (x', y', z')))) ∧ Ext w w' := eqArc_any (x, y, z) (x', y', z') w

set_option maxHeartbeats 1000000 in
theorem toArcS_any (v : Value) (ar : List (Int × Int × Int)) (w : World) (h : ReadsArcs w v ar) (hs : ar.length ≤ 1048576) :
    Calls Try.prog 13 #[v] w fun e w' => e = .returned (.slice (some ⟨w.heap.size, 0, none⟩) ar.length ar.length) ∧ OwnA w' w.heap.size 36 (.slice (some ⟨w.heap.size, 0, none⟩) ar.length ar.length) ar ∧ Ext w w' := by
  obtain ⟨a, c, rfl⟩ := h.slice
  obtain ⟨-, hlc, hc⟩ := h.len
  obtain ⟨n, hn⟩ : ∃ n, n = ar.length := ⟨_, rfl⟩
  rw [← hn] at h hlc hs ⊢
  have hmk := run_make_arcs (P := Try.prog) 27 36 24 Try.underlying27 infoArc .i64 .i64 n (by omega) (by omega)
  have HM := Lib.hid (And.intro h hn)
  clear h hn
  go_enter Try.func13, Try.ntmps13
  go_wp2
  go_loopw [4] (fun i wr => ∃ k : Nat, k ≤ n ∧ i = .int .i64 k ∧ OwnA wr w.heap.size 36 (.slice (some ⟨w.heap.size, 0, none⟩) n n) (ar.take k ++ List.replicate (n - k) (0, 0, 0)) ∧ Ext w wr) (fun i _ => n - (intOf i).toNat)
  case atStart =>
    refine ⟨0, by omega, rfl, ?_, Ext.alloc _ _⟩
    have := OwnA.made w 36 n (by unfold maxLen; omega)
    simpa using this
  case round =>
    obtain ⟨k, hk, rfl, hown, hx⟩ := hrel
    by_cases hlt : k < n
    · have hkm : k < ar.length := by rw [← HM.out.2]; exact hlt
      obtain ⟨b, o, x, y, z, rfl, hxyz, k0, k1, k2⟩ := (HM.out.1.ext hx).at k hkm
      have hlen : (ar.take k ++ List.replicate (n - k) (0, 0, 0)).length = n := by simp; rw [← HM.out.2]; omega
      have HK := Lib.hid (And.intro hown (And.intro hxyz hlen))
      clear hown hxyz hlen
      go_wp2_with fail
      with_reducible refine (toArc3 x y z _).mono ?_
      rintro e w1 ⟨rfl, hx1⟩
      have ho1 := HK.out.1.ext hx1
      have hc1 := ho1.cellAt k (by rw [HK.out.2.2]; exact hlt)
      obtain ⟨d0, d1, d2⟩ := hc1
      have f0 := ho1.frozen (k * 3)
      have f1 := ho1.frozen (k * 3 + 1)
      have f2 := ho1.frozen (k * 3 + 2)
      have hput := ho1.put k (by rw [HK.out.2.2]; exact hlt) (x, y, z)
      have e : (ar.take k ++ List.replicate (n - k) (0, 0, 0)).set k (x, y, z) = ar.take (k + 1) ++ List.replicate (n - (k + 1)) (0, 0, 0) := by
        have hxe : ar[k] = (x, y, z) := by
          have := HK.out.2.1
          rw [List.getElem?_eq_getElem hkm] at this
          exact Option.some.inj this
        rw [List.set_append_right _ _ (by simp; omega), List.length_take, Nat.min_eq_left (by omega), Nat.sub_self, show n - k = (n - (k + 1)) + 1 by omega, List.replicate_succ, List.set_cons_zero, List.take_succ_eq_append_getElem hkm, List.append_assoc, hxe]
        rfl
      rw [e] at hput
      have hx' := (((hx.trans hx1).setCell (p := ⟨w.heap.size, k * 3, none⟩) (Nat.le_refl _) (.int .i64 x)).setCell (p := ⟨w.heap.size, k * 3 + 1, none⟩) (Nat.le_refl _) (.int .i64 y)).setCell (p := ⟨w.heap.size, k * 3 + 2, none⟩) (Nat.le_refl _) (.int .i64 z)
      have H8 := Lib.hid (And.intro hput hx')
      clear ho1 hput hx' e hx hx1 k0 k1 k2
      go_wp2
      go_roundw
      case rel => exact ⟨k + 1, by omega, by go_num, H8.out.1, H8.out.2⟩
      case measure => simp [intOf]; omega
    · have hkn : k = n := by omega
      subst hkn
      have e : ar.take k ++ List.replicate (k - k) (0, 0, 0) = ar := by rw [List.take_of_length_le (by rw [← HM.out.2]; omega)]; simp
      rw [e] at hown
      have HO := Lib.hid hown
      clear e hown
      go_wp2
      go_ret
      exact ⟨rfl, HO.out, hx⟩

set_option maxHeartbeats 1000000 in
theorem eqArcS_same (v v' : Value) (ar : List (Int × Int × Int)) (w : World) (h : ReadsArcs w v ar) (h' : ReadsArcs w v' ar) :
    Calls Try.prog 15 #[v, v'] w fun e w' => e = .returned (.bool true) ∧ Ext w w' := by
  obtain ⟨a, c, rfl⟩ := h.slice
  obtain ⟨a', c', rfl⟩ := h'.slice
  obtain ⟨-, hlc, hc⟩ := h.len
  have hlc' := h'.len.2.1
  have hc' := h'.len.2.2
  obtain ⟨n, hn⟩ : ∃ n, n = ar.length := ⟨_, rfl⟩
  rw [← hn] at hlc h h' hlc' ⊢
  have hne : ((n : Int) != (n : Int)) = false := by simp
  have HM := Lib.hid (And.intro h (And.intro h' hn))
  clear h h' hn
  go_enter Try.func15, Try.ntmps15
  go_wp2
  go_loopw [5] (fun i wr => ∃ k : Nat, k ≤ n ∧ i = .int .i64 k ∧ Ext w wr) (fun i _ => n - (intOf i).toNat)
  case atStart => exact ⟨0, by omega, rfl, Ext.refl _⟩
  case round =>
    obtain ⟨k, hk, rfl, hx⟩ := hrel
    by_cases hlt : k < n
    · have hkm : k < ar.length := by rw [← HM.out.2.2]; exact hlt
      obtain ⟨b, o, x, y, z, rfl, hxyz, k0, k1, k2⟩ := (HM.out.1.ext hx).at k hkm
      obtain ⟨b', o', x', y', z', rfl, hxyz', k0', k1', k2'⟩ := (HM.out.2.1.ext hx).at k hkm
      rw [hxyz] at hxyz'
      obtain ⟨rfl, rfl, rfl⟩ : x = x' ∧ y = y' ∧ z = z' := by simpa using hxyz'
      clear hxyz hxyz'
      obtain ⟨wq, rfl⟩ : ∃ wq : World, wq = wr := ⟨_, rfl⟩
      go_wp2
      refine wp_region_inv (by kernel_rfl) [.known ?hx5_2_v0, .known ?hx5_2_v1, .known ?hx5_2_v2, .known ?hx5_2_v3, .known ?hx5_2_v4, .known ?hx5_2_v5, .known ?hx5_2_v6, .known ?hx5_2_v7, .known (.bool true), .known ?hx5_2_v9] rfl (by kernel_rfl) ?hx5_2_s ?hx5_2_p
      case hx5_2_s =>
        intro vs
        refine ⟨fun w' hxw hj => ?_, fun w' hxw hj => ?_, fun w' hxw hj => ?_, fun w' hxw hj => ?_, fun w' hxw hj => ?_, fun w' hxw hj => ?_, fun w' hxw hj => ?_, fun w' hxw hj => ?_, fun w' hxw hj => ?_, fun w' hxw hj => ?_, trivial⟩
        · have k0 := Ext.cell_some hxw k0
          have k1 := Ext.cell_some hxw k1
          have k2 := Ext.cell_some hxw k2
          have k0' := Ext.cell_some hxw k0'
          have k1' := Ext.cell_some hxw k1'
          have k2' := Ext.cell_some hxw k2'
          clear hj
          go_simp
          try go_bits
          first | rfl | (rw [if_pos (by omega), if_pos (by omega)]; go_simp; rfl) | (rw [if_pos (by omega)]; go_simp; rfl) | skip
        · have k0 := Ext.cell_some hxw k0
          have k1 := Ext.cell_some hxw k1
          have k2 := Ext.cell_some hxw k2
          have k0' := Ext.cell_some hxw k0'
          have k1' := Ext.cell_some hxw k1'
          have k2' := Ext.cell_some hxw k2'
          clear hj
          go_simp
          try go_bits
          first | rfl | (rw [if_pos (by omega), if_pos (by omega)]; go_simp; rfl) | (rw [if_pos (by omega)]; go_simp; rfl) | skip
        · have k0 := Ext.cell_some hxw k0
          have k1 := Ext.cell_some hxw k1
          have k2 := Ext.cell_some hxw k2
          have k0' := Ext.cell_some hxw k0'
          have k1' := Ext.cell_some hxw k1'
          have k2' := Ext.cell_some hxw k2'
          clear hj
          go_simp
          try go_bits
          first | rfl | (rw [if_pos (by omega), if_pos (by omega)]; go_simp; rfl) | (rw [if_pos (by omega)]; go_simp; rfl) | skip
        · have k0 := Ext.cell_some hxw k0
          have k1 := Ext.cell_some hxw k1
          have k2 := Ext.cell_some hxw k2
          have k0' := Ext.cell_some hxw k0'
          have k1' := Ext.cell_some hxw k1'
          have k2' := Ext.cell_some hxw k2'
          clear hj
          go_simp
          try go_bits
          first | rfl | (rw [if_pos (by omega), if_pos (by omega)]; go_simp; rfl) | (rw [if_pos (by omega)]; go_simp; rfl) | skip
        · have k0 := Ext.cell_some hxw k0
          have k1 := Ext.cell_some hxw k1
          have k2 := Ext.cell_some hxw k2
          have k0' := Ext.cell_some hxw k0'
          have k1' := Ext.cell_some hxw k1'
          have k2' := Ext.cell_some hxw k2'
          clear hj
          go_simp
          try go_bits
          first | rfl | (rw [if_pos (by omega), if_pos (by omega)]; go_simp; rfl) | (rw [if_pos (by omega)]; go_simp; rfl) | skip
        · have k0 := Ext.cell_some hxw k0
          have k1 := Ext.cell_some hxw k1
          have k2 := Ext.cell_some hxw k2
          have k0' := Ext.cell_some hxw k0'
          have k1' := Ext.cell_some hxw k1'
          have k2' := Ext.cell_some hxw k2'
          clear hj
          go_simp
          try go_bits
          first | rfl | (rw [if_pos (by omega), if_pos (by omega)]; go_simp; rfl) | (rw [if_pos (by omega)]; go_simp; rfl) | skip
        · have k0 := Ext.cell_some hxw k0
          have k1 := Ext.cell_some hxw k1
          have k2 := Ext.cell_some hxw k2
          have k0' := Ext.cell_some hxw k0'
          have k1' := Ext.cell_some hxw k1'
          have k2' := Ext.cell_some hxw k2'
          clear hj
          go_simp
          try go_bits
          first | rfl | (rw [if_pos (by omega), if_pos (by omega)]; go_simp; rfl) | (rw [if_pos (by omega)]; go_simp; rfl) | skip
        · have k0 := Ext.cell_some hxw k0
          have k1 := Ext.cell_some hxw k1
          have k2 := Ext.cell_some hxw k2
          have k0' := Ext.cell_some hxw k0'
          have k1' := Ext.cell_some hxw k1'
          have k2' := Ext.cell_some hxw k2'
          clear hj
          go_simp
          try go_bits
          first | rfl | (rw [if_pos (by omega), if_pos (by omega)]; go_simp; rfl) | (rw [if_pos (by omega)]; go_simp; rfl) | skip
        · have k0 := Ext.cell_some hxw k0
          have k1 := Ext.cell_some hxw k1
          have k2 := Ext.cell_some hxw k2
          have k0' := Ext.cell_some hxw k0'
          have k1' := Ext.cell_some hxw k1'
          have k2' := Ext.cell_some hxw k2'
          clear hj
          go_simp
          try go_bits
          exact (eqArc3 x y z x y z _).mono fun _ _ ⟨h1, h2⟩ => ⟨h1.trans (lab_bool (by simp)), h2⟩
        · have k0 := Ext.cell_some hxw k0
          have k1 := Ext.cell_some hxw k1
          have k2 := Ext.cell_some hxw k2
          have k0' := Ext.cell_some hxw k0'
          have k1' := Ext.cell_some hxw k1'
          have k2' := Ext.cell_some hxw k2'
          clear hj
          go_simp
          try go_bits
          first | rfl | (rw [if_pos (by omega), if_pos (by omega)]; go_simp; rfl) | (rw [if_pos (by omega)]; go_simp; rfl) | skip
      case' hx5_2_p =>
        intro vs w5 hx5 hk
        clear hk
        replace k0 := Ext.cell_some hx5 k0
        replace k1 := Ext.cell_some hx5 k1
        replace k2 := Ext.cell_some hx5 k2
        replace k0' := Ext.cell_some hx5 k0'
        replace k1' := Ext.cell_some hx5 k1'
        replace k2' := Ext.cell_some hx5 k2'
        replace hx := Ext.trans hx hx5
        go_simp
        clear hx5
        go_wp2
        go_roundw
        case rel => exact ⟨k + 1, by omega, by go_num, hx⟩
        case measure => simp [intOf]; omega
    · go_wp2
      go_ret
      exact ⟨rfl, hx⟩

/-- a labelled graph as a value -/
theorem szLabels_any (L S l : Int) (u : Value) (ar : List (Int × Int × Int)) (w : World) (h0 : 0 ≤ l) (h1 : l ≤ 1048576) (h : ReadsArcs w u ar) :
    Calls Try.prog 5 #[.agg #[.int .i64 L, .int .i64 S, u], .int .i64 l] w fun e w' => e = .returned (.int .i64 (if l - (ar.length : Int) < 0 then -1 else l - (ar.length : Int))) ∧ Ext w w' := by
  obtain ⟨a, c, rfl⟩ := h.slice
  obtain ⟨-, hlc, hc⟩ := h.len
  have hsz := szArcS_any a ar.length c l
  obtain ⟨n, hn⟩ : ∃ n, n = ar.length := ⟨_, rfl⟩
  rw [← hn] at hsz hlc ⊢
  clear h hn
  obtain ⟨r, hr⟩ : ∃ r, r = if l - (n : Int) < 0 then -1 else l - (n : Int) := ⟨_, rfl⟩
  have hrb : r = -1 ∨ 0 ≤ r := by rw [hr]; split <;> omega
  rw [← hr]
  rw [← hr] at hsz
  have HZ := Lib.hid hsz
  clear hsz hr
  rcases hrb with rfl | hrb
  · go_enter Try.func5, Try.ntmps5
    go_wp2_with fail
    with_reducible refine (HZ.out _ (by omega) (by omega) (by omega)).mono ?_
    rintro e w' ⟨rfl, rfl⟩
    go_wp2
    go_ret
    exact ⟨rfl, Ext.alloc _ _⟩
  · go_enter Try.func5, Try.ntmps5
    go_wp2_with fail
    with_reducible refine (HZ.out _ (by omega) (by omega) (by omega)).mono ?_
    rintro e w' ⟨rfl, rfl⟩
    go_wp2
    go_ret
    exact ⟨rfl, Ext.alloc _ _⟩
end Go.Proofs.Ytjfgbnihnnlneaa
