/- For all arguments the law FnExactEqualLabels returns true. No conditions. -/
import Derived.Test.YtmageeidjhnkjaaLabD
namespace Go.Proofs.Ytmageeidjhnkjaa
open Go.ChangeShapes Go.WideShapes Go.ChangeAt Go.RowKit

/-- a labelled graph of these numbers and arcs -/
def LabJ (L S : Int) (ar : List (Int × Int × Int)) (v : Value) (w : World) : Prop := ∃ a n c, v = .agg #[.int .i64 L, .int .i64 S, .slice a n c] ∧ ReadsArcs w (.slice a n c) ar
theorem LabJ.ok (L S : Int) (ar : List (Int × Int × Int)) : ∀ v w w', Ext w w' → LabJ L S ar v w → LabJ L S ar v w' := fun _ _ _ hx ⟨a, n, c, h1, h2⟩ => ⟨a, n, c, h1, h2.ext hx⟩
theorem toLabJ_any (L S : Int) (u : Value) (ar : List (Int × Int × Int)) (w : World) (h : ReadsArcs w u ar) (hs : ar.length ≤ 1048576) :
    Calls Try.prog 7 #[.agg #[.int .i64 L, .int .i64 S, u]] w fun e w' => ∃ v, e = .returned v ∧ Ext w w' ∧ LabJ L S ar v w' :=
  (toLabels_any L S u ar w h hs).mono fun _ _ ⟨u', h1, h2, h3⟩ => by
    obtain ⟨a, c, rfl⟩ := h2.slice
    exact ⟨_, h1, h3, _, _, _, rfl, h2⟩
theorem left_or (l : Int) (n : Nat) : (l < (n : Int) ∧ (if l - (n : Int) < 0 then -1 else l - (n : Int)) = -1) ∨ ((n : Int) ≤ l ∧ (if l - (n : Int) < 0 then -1 else l - (n : Int)) = l - (n : Int)) := by
  by_cases h : l - (n : Int) < 0
  · exact .inl ⟨by omega, if_pos h⟩
  · exact .inr ⟨by omega, if_neg h⟩

set_option maxRecDepth 100000 in
set_option maxHeartbeats 4000000 in
theorem exactEqualLabels_any (L S : Int) (u : Value) (ar : List (Int × Int × Int)) (L' S' : Int) (u' : Value) (br : List (Int × Int × Int)) (w : World)
    (_ : -9223372036854775808 ≤ L ∧ L ≤ 9223372036854775807) (_ : -9223372036854775808 ≤ S ∧ S ≤ 9223372036854775807) (A0 : ReadsArcs w u ar ∧ ArcsFit ar)
    (_ : -9223372036854775808 ≤ L' ∧ L' ≤ 9223372036854775807) (_ : -9223372036854775808 ≤ S' ∧ S' ≤ 9223372036854775807) (A1 : ReadsArcs w u' br ∧ ArcsFit br) :
    Calls Try.prog 3 #[.agg #[.int .i64 L, .int .i64 S, u], .agg #[.int .i64 L', .int .i64 S', u']] w fun e w' => e = .returned (.bool true) ∧ Ext w w' := by
  obtain ⟨A0, -⟩ := A0
  obtain ⟨A1, -⟩ := A1
  obtain ⟨pa, ca, rfl⟩ := A0.slice
  obtain ⟨pb, cb, rfl⟩ := A1.slice
  have HW := Lib.hid (Ext.trans (Ext.alloc w (.cells #[.int .i64 L, .int .i64 S, .slice pa ar.length ca] 24)) (Ext.alloc _ (.cells #[.int .i64 L', .int .i64 S', .slice pb br.length cb] 24)))
  have HA := Lib.hid (And.intro A0 A1)
  clear A0 A1
  have HC : ∀ w1, Ext ((w.alloc (.cells #[.int .i64 L, .int .i64 S, .slice pa ar.length ca] 24)).alloc (.cells #[.int .i64 L', .int .i64 S', .slice pb br.length cb] 24)) w1 →
      (w1.cell? ⟨w.heap.size, 0, none⟩ = some (.int .i64 L) ∧ w1.cell? ⟨w.heap.size, 1, none⟩ = some (.int .i64 S) ∧ w1.cell? ⟨w.heap.size, 2, none⟩ = some (.slice pa ar.length ca)) ∧ w1.cell? ⟨w.heap.size + 1, 0, none⟩ = some (.int .i64 L') ∧ w1.cell? ⟨w.heap.size + 1, 1, none⟩ = some (.int .i64 S') ∧ w1.cell? ⟨w.heap.size + 1, 2, none⟩ = some (.slice pb br.length cb) := by
    intro w1 hx
    exact ⟨⟨hx.cell_some (old_cell (fresh_cell rfl rfl)), hx.cell_some (old_cell (fresh_cell rfl rfl)), hx.cell_some (old_cell (fresh_cell rfl rfl))⟩, hx.cell_some (fresh_cell (by simp) rfl), hx.cell_some (fresh_cell (by simp) rfl), hx.cell_some (fresh_cell (by simp) rfl)⟩
  have HC := Lib.hid HC
  have HL := Lib.hid (And.intro (left_or 1048576 ar.length) (left_or (1048576 - (ar.length : Int)) br.length))
  go_enter Try.func3, Try.ntmps3
  go_wp2_with fail
  with_reducible refine (szLabels_any L S 1048576 _ ar _ (by omega) (by omega) (HA.out.1.ext HW.out)).mono ?_
  rintro e w1 ⟨rfl, hx1⟩
  have E := Ext.trans HW.out hx1
  obtain ⟨⟨a0, a1, a2⟩, b0, b1, b2⟩ := HC.out w1 hx1
  rcases HL.out.1 with ⟨hl, hr⟩ | ⟨hl, hr⟩
  · rw [hr]
    clear hr hl
    go_wp2
    go_ret
    exact ⟨rfl, E⟩
  rw [hr]
  have hl0 : 0 ≤ 1048576 - (ar.length : Int) := by omega
  clear hr
  go_wp2_with fail
  with_reducible refine (szLabels_any L' S' _ _ br _ (by omega) (by omega) (HA.out.2.ext E)).mono ?_
  rintro e w2 ⟨rfl, hx2⟩
  have hx12 := Ext.trans hx1 hx2
  replace E := Ext.trans HW.out hx12
  clear a0 a1 a2 b0 b1 b2
  obtain ⟨⟨a0, a1, a2⟩, b0, b1, b2⟩ := HC.out w2 hx12
  rcases HL.out.2 with ⟨hm, hr⟩ | ⟨hm, hr⟩
  · rw [hr]
    clear hr hm
    go_wp2
    go_ret
    exact ⟨rfl, E⟩
  rw [hr]
  clear hr
  have hla : ar.length ≤ 1048576 := by omega
  have hlb : br.length ≤ 1048576 := by omega
  have hneg : ¬ (1048576 - (ar.length : Int) - (br.length : Int) < 0) := by omega
  clear hx1 hx2
  obtain ⟨s, hs⟩ : ∃ s, s = sameLab L S ar L' S' br := ⟨_, rfl⟩
  have hsp := fun u u' w r r' => spec_EqualLabels_any L S L' S' u u' ar br w r r'
  have him := fun u u' w r r' => impl_EqualLabels_any L S L' S' u u' ar br w r r'
  rw [← hs] at hsp him
  have HE := Lib.hid (And.intro hsp him)
  clear hsp him hs
  go_wp2
  refine wp_region_inv (by kernel_rfl) [.known ?hx3_1_v0, .such (LabJ L S ar) (LabJ.ok _ _ _), .known ?hx3_1_v2, .such (LabJ L' S' br) (LabJ.ok _ _ _), .known (.bool s), .known ?hx3_1_v5] rfl (by kernel_rfl) ?hx3_1_s ?hx3_1_p
  case hx3_1_s =>
    intro vs
    refine ⟨fun w' hxw hj => ?_, fun w' hxw hj => ?_, fun w' hxw hj => ?_, fun w' hxw hj => ?_, fun w' hxw hj => ?_, fun w' hxw hj => ?_, trivial⟩
    · have a0 := Ext.cell_some hxw a0
      have a1 := Ext.cell_some hxw a1
      have a2 := Ext.cell_some hxw a2
      have b0 := Ext.cell_some hxw b0
      have b1 := Ext.cell_some hxw b1
      have b2 := Ext.cell_some hxw b2
      clear hj
      go_simp
      try go_bits
      first | rfl | (rw [if_pos (by omega), if_pos (by omega)]; go_simp; rfl) | (rw [if_pos (by omega)]; go_simp; rfl) | skip
    · have a0 := Ext.cell_some hxw a0
      have a1 := Ext.cell_some hxw a1
      have a2 := Ext.cell_some hxw a2
      have b0 := Ext.cell_some hxw b0
      have b1 := Ext.cell_some hxw b1
      have b2 := Ext.cell_some hxw b2
      clear hj
      go_simp
      try go_bits
      exact toLabJ_any L S _ ar _ (HA.out.1.ext (Ext.trans E hxw)) hla
    · have a0 := Ext.cell_some hxw a0
      have a1 := Ext.cell_some hxw a1
      have a2 := Ext.cell_some hxw a2
      have b0 := Ext.cell_some hxw b0
      have b1 := Ext.cell_some hxw b1
      have b2 := Ext.cell_some hxw b2
      clear hj
      go_simp
      try go_bits
      first | rfl | (rw [if_pos (by omega), if_pos (by omega)]; go_simp; rfl) | (rw [if_pos (by omega)]; go_simp; rfl) | skip
    · have a0 := Ext.cell_some hxw a0
      have a1 := Ext.cell_some hxw a1
      have a2 := Ext.cell_some hxw a2
      have b0 := Ext.cell_some hxw b0
      have b1 := Ext.cell_some hxw b1
      have b2 := Ext.cell_some hxw b2
      clear hj
      go_simp
      try go_bits
      exact toLabJ_any L' S' _ br _ (HA.out.2.ext (Ext.trans E hxw)) hlb
    · have a0 := Ext.cell_some hxw a0
      have a1 := Ext.cell_some hxw a1
      have a2 := Ext.cell_some hxw a2
      have b0 := Ext.cell_some hxw b0
      have b1 := Ext.cell_some hxw b1
      have b2 := Ext.cell_some hxw b2
      obtain ⟨p1, n1, c1, e1, r1⟩ := hj 1 (by kernel_rfl)
      obtain ⟨p3, n3, c3, e3, r3⟩ := hj 3 (by kernel_rfl)
      clear hj
      go_simp
      (try rw [e1])
      (try rw [e3])
      exact HE.out.1 _ _ _ r1 r3
    · have a0 := Ext.cell_some hxw a0
      have a1 := Ext.cell_some hxw a1
      have a2 := Ext.cell_some hxw a2
      have b0 := Ext.cell_some hxw b0
      have b1 := Ext.cell_some hxw b1
      have b2 := Ext.cell_some hxw b2
      clear hj
      go_simp
      try go_bits
      first | rfl | (rw [if_pos (by omega), if_pos (by omega)]; go_simp; rfl) | (rw [if_pos (by omega)]; go_simp; rfl) | skip
  case' hx3_1_p =>
    intro vs w3 hx3 hk
    have k1 : (LabJ L S ar) (vs 1) w3 := hk 1 _ rfl
    have k3 : (LabJ L' S' br) (vs 3) w3 := hk 3 _ rfl
    clear hk
    replace a0 := Ext.cell_some hx3 a0
    replace a1 := Ext.cell_some hx3 a1
    replace a2 := Ext.cell_some hx3 a2
    replace b0 := Ext.cell_some hx3 b0
    replace b1 := Ext.cell_some hx3 b1
    replace b2 := Ext.cell_some hx3 b2
    replace E := Ext.trans E hx3
    replace hx12 := Ext.trans hx12 hx3
    go_simp
    clear k1 k3 hx3
    go_wp2_with fail
    with_reducible refine (toLabJ_any L S _ ar _ (HA.out.1.ext E) hla).mono ?_
    rintro e w4 ⟨v1, rfl, hx4, p1, n1, c1, rfl, r1⟩
    replace E := Ext.trans E hx4
    replace hx12 := Ext.trans hx12 hx4
    clear a0 a1 a2 b0 b1 b2
    obtain ⟨⟨a0, a1, a2⟩, b0, b1, b2⟩ := HC.out w4 hx12
    have HR1 := Lib.hid r1
    have m0 := (Ext.alloc w4 (.cells #[.int .i64 L, .int .i64 S, .slice p1 n1 c1] 29)).cell_some b0
    have m1 := (Ext.alloc w4 (.cells #[.int .i64 L, .int .i64 S, .slice p1 n1 c1] 29)).cell_some b1
    have m2 := (Ext.alloc w4 (.cells #[.int .i64 L, .int .i64 S, .slice p1 n1 c1] 29)).cell_some b2
    clear r1 hx4
    go_wp2_with fail
    with_reducible refine (toLabJ_any L' S' _ br _ (HA.out.2.ext (Ext.trans E (Ext.alloc _ _))) hlb).mono ?_
    rintro e w5 ⟨v2, rfl, hx5, p2, n2, c2, rfl, r2⟩
    have HX5 := Lib.hid hx5
    replace E := Ext.trans (Ext.trans E (Ext.alloc _ _)) hx5
    replace hx12 := Ext.trans (Ext.trans hx12 (Ext.alloc _ _)) hx5
    clear a0 a1 a2 b0 b1 b2 m0 m1 m2
    obtain ⟨⟨a0, a1, a2⟩, b0, b1, b2⟩ := HC.out w5 hx12
    have g0 := hx5.cell_some (fresh_cell (n := w4.heap.size) (i := 0) rfl rfl)
    have g1 := hx5.cell_some (fresh_cell (n := w4.heap.size) (i := 1) rfl rfl)
    have g2 := hx5.cell_some (fresh_cell (n := w4.heap.size) (i := 2) rfl rfl)
    have hlt5 : w4.heap.size < w5.heap.size := by have := hx5.size; simp at this; omega
    have HR := Lib.hid (And.intro ((HR1.out.ext (Ext.alloc _ _)).ext hx5) r2)
    have m0 := (Ext.alloc w5 (.cells #[.int .i64 L', .int .i64 S', .slice p2 n2 c2] 29)).cell_some g0
    have m1 := (Ext.alloc w5 (.cells #[.int .i64 L', .int .i64 S', .slice p2 n2 c2] 29)).cell_some g1
    have m2 := (Ext.alloc w5 (.cells #[.int .i64 L', .int .i64 S', .slice p2 n2 c2] 29)).cell_some g2
    clear HR1 r2 hx5 HX5
    go_wp2_with fail
    with_reducible refine (HE.out.2 _ _ _ (HR.out.1.ext (Ext.alloc _ _)) (HR.out.2.ext (Ext.alloc _ _))).mono ?_
    rintro e w6 ⟨rfl, hx6⟩
    have q0 := hx6.cell_some (fresh_cell (n := w5.heap.size) (i := 0) rfl rfl)
    have q1 := hx6.cell_some (fresh_cell (n := w5.heap.size) (i := 1) rfl rfl)
    have q2 := hx6.cell_some (fresh_cell (n := w5.heap.size) (i := 2) rfl rfl)
    replace g0 := hx6.cell_some (old_cell g0)
    replace g1 := hx6.cell_some (old_cell g1)
    replace g2 := hx6.cell_some (old_cell g2)
    replace E := Ext.trans (Ext.trans E (Ext.alloc _ _)) hx6
    replace hx12 := Ext.trans (Ext.trans hx12 (Ext.alloc _ _)) hx6
    clear a0 a1 a2 b0 b1 b2 m0 m1 m2
    obtain ⟨⟨a0, a1, a2⟩, b0, b1, b2⟩ := HC.out w6 hx12
    have rA := (HR.out.1.ext (Ext.alloc _ _)).ext hx6
    have rB := (HR.out.2.ext (Ext.alloc _ _)).ext hx6
    have HQ := Lib.hid (And.intro rA rB)
    clear rA rB HR hx6
    go_wp2
    refine wp_region_inv (by kernel_rfl) [.known ?hx7_2_v0, .known ?hx7_2_v1, .such (LabJ L S ar) (LabJ.ok _ _ _), .known (.bool true), .known ?hx7_2_v4] rfl (by kernel_rfl) ?hx7_2_s ?hx7_2_p
    case hx7_2_s =>
      intro vs
      refine ⟨fun w' hxw hj => ?_, fun w' hxw hj => ?_, fun w' hxw hj => ?_, fun w' hxw hj => ?_, fun w' hxw hj => ?_, trivial⟩
      · have a0 := Ext.cell_some hxw a0
        have a1 := Ext.cell_some hxw a1
        have a2 := Ext.cell_some hxw a2
        have b0 := Ext.cell_some hxw b0
        have b1 := Ext.cell_some hxw b1
        have b2 := Ext.cell_some hxw b2
        have g0 := Ext.cell_some hxw g0
        have g1 := Ext.cell_some hxw g1
        have g2 := Ext.cell_some hxw g2
        have q0 := Ext.cell_some hxw q0
        have q1 := Ext.cell_some hxw q1
        have q2 := Ext.cell_some hxw q2
        clear hj
        go_simp
        try go_bits
        first | rfl | (rw [if_pos (by omega), if_pos (by omega)]; go_simp; rfl) | (rw [if_pos (by omega)]; go_simp; rfl) | skip
      · have a0 := Ext.cell_some hxw a0
        have a1 := Ext.cell_some hxw a1
        have a2 := Ext.cell_some hxw a2
        have b0 := Ext.cell_some hxw b0
        have b1 := Ext.cell_some hxw b1
        have b2 := Ext.cell_some hxw b2
        have g0 := Ext.cell_some hxw g0
        have g1 := Ext.cell_some hxw g1
        have g2 := Ext.cell_some hxw g2
        have q0 := Ext.cell_some hxw q0
        have q1 := Ext.cell_some hxw q1
        have q2 := Ext.cell_some hxw q2
        clear hj
        go_simp
        try go_bits
        first | rfl | (rw [if_pos (by omega), if_pos (by omega)]; go_simp; rfl) | (rw [if_pos (by omega)]; go_simp; rfl) | skip
      · have a0 := Ext.cell_some hxw a0
        have a1 := Ext.cell_some hxw a1
        have a2 := Ext.cell_some hxw a2
        have b0 := Ext.cell_some hxw b0
        have b1 := Ext.cell_some hxw b1
        have b2 := Ext.cell_some hxw b2
        have g0 := Ext.cell_some hxw g0
        have g1 := Ext.cell_some hxw g1
        have g2 := Ext.cell_some hxw g2
        have q0 := Ext.cell_some hxw q0
        have q1 := Ext.cell_some hxw q1
        have q2 := Ext.cell_some hxw q2
        clear hj
        go_simp
        try go_bits
        exact toLabJ_any L S _ ar _ (HA.out.1.ext (Ext.trans E hxw)) hla
      · have a0 := Ext.cell_some hxw a0
        have a1 := Ext.cell_some hxw a1
        have a2 := Ext.cell_some hxw a2
        have b0 := Ext.cell_some hxw b0
        have b1 := Ext.cell_some hxw b1
        have b2 := Ext.cell_some hxw b2
        have g0 := Ext.cell_some hxw g0
        have g1 := Ext.cell_some hxw g1
        have g2 := Ext.cell_some hxw g2
        have q0 := Ext.cell_some hxw q0
        have q1 := Ext.cell_some hxw q1
        have q2 := Ext.cell_some hxw q2
        obtain ⟨p3, n3, c3, e3, r3⟩ := hj 2 (by kernel_rfl)
        clear hj
        go_simp
        (try rw [e3])
        exact eqLabels_same L S _ _ ar _ (HQ.out.1.ext hxw) r3
      · have a0 := Ext.cell_some hxw a0
        have a1 := Ext.cell_some hxw a1
        have a2 := Ext.cell_some hxw a2
        have b0 := Ext.cell_some hxw b0
        have b1 := Ext.cell_some hxw b1
        have b2 := Ext.cell_some hxw b2
        have g0 := Ext.cell_some hxw g0
        have g1 := Ext.cell_some hxw g1
        have g2 := Ext.cell_some hxw g2
        have q0 := Ext.cell_some hxw q0
        have q1 := Ext.cell_some hxw q1
        have q2 := Ext.cell_some hxw q2
        clear hj
        go_simp
        try go_bits
        first | rfl | (rw [if_pos (by omega), if_pos (by omega)]; go_simp; rfl) | (rw [if_pos (by omega)]; go_simp; rfl) | skip
    case' hx7_2_p =>
      intro vs w7 hx7 hk
      have k2 : (LabJ L S ar) (vs 2) w7 := hk 2 _ rfl
      clear hk
      replace a0 := Ext.cell_some hx7 a0
      replace a1 := Ext.cell_some hx7 a1
      replace a2 := Ext.cell_some hx7 a2
      replace b0 := Ext.cell_some hx7 b0
      replace b1 := Ext.cell_some hx7 b1
      replace b2 := Ext.cell_some hx7 b2
      replace g0 := Ext.cell_some hx7 g0
      replace g1 := Ext.cell_some hx7 g1
      replace g2 := Ext.cell_some hx7 g2
      replace q0 := Ext.cell_some hx7 q0
      replace q1 := Ext.cell_some hx7 q1
      replace q2 := Ext.cell_some hx7 q2
      replace E := Ext.trans E hx7
      replace hx12 := Ext.trans hx12 hx7
      go_simp
      have HQ7 := Lib.hid (HQ.out.2.ext hx7)
      clear k2 hx7
      go_wp2
      refine wp_region_inv (by kernel_rfl) [.known ?hx8_3_v0, .known ?hx8_3_v1, .such (LabJ L' S' br) (LabJ.ok _ _ _), .known (.bool true), .known ?hx8_3_v4] rfl (by kernel_rfl) ?hx8_3_s ?hx8_3_p
      case hx8_3_s =>
        intro vs
        refine ⟨fun w' hxw hj => ?_, fun w' hxw hj => ?_, fun w' hxw hj => ?_, fun w' hxw hj => ?_, fun w' hxw hj => ?_, trivial⟩
        · have a0 := Ext.cell_some hxw a0
          have a1 := Ext.cell_some hxw a1
          have a2 := Ext.cell_some hxw a2
          have b0 := Ext.cell_some hxw b0
          have b1 := Ext.cell_some hxw b1
          have b2 := Ext.cell_some hxw b2
          have q0 := Ext.cell_some hxw q0
          have q1 := Ext.cell_some hxw q1
          have q2 := Ext.cell_some hxw q2
          clear hj
          go_simp
          try go_bits
          first | rfl | (rw [if_pos (by omega), if_pos (by omega)]; go_simp; rfl) | (rw [if_pos (by omega)]; go_simp; rfl) | skip
        · have a0 := Ext.cell_some hxw a0
          have a1 := Ext.cell_some hxw a1
          have a2 := Ext.cell_some hxw a2
          have b0 := Ext.cell_some hxw b0
          have b1 := Ext.cell_some hxw b1
          have b2 := Ext.cell_some hxw b2
          have q0 := Ext.cell_some hxw q0
          have q1 := Ext.cell_some hxw q1
          have q2 := Ext.cell_some hxw q2
          clear hj
          go_simp
          try go_bits
          first | rfl | (rw [if_pos (by omega), if_pos (by omega)]; go_simp; rfl) | (rw [if_pos (by omega)]; go_simp; rfl) | skip
        · have a0 := Ext.cell_some hxw a0
          have a1 := Ext.cell_some hxw a1
          have a2 := Ext.cell_some hxw a2
          have b0 := Ext.cell_some hxw b0
          have b1 := Ext.cell_some hxw b1
          have b2 := Ext.cell_some hxw b2
          have q0 := Ext.cell_some hxw q0
          have q1 := Ext.cell_some hxw q1
          have q2 := Ext.cell_some hxw q2
          clear hj
          go_simp
          try go_bits
          exact toLabJ_any L' S' _ br _ (HA.out.2.ext (Ext.trans E hxw)) hlb
        · have a0 := Ext.cell_some hxw a0
          have a1 := Ext.cell_some hxw a1
          have a2 := Ext.cell_some hxw a2
          have b0 := Ext.cell_some hxw b0
          have b1 := Ext.cell_some hxw b1
          have b2 := Ext.cell_some hxw b2
          have q0 := Ext.cell_some hxw q0
          have q1 := Ext.cell_some hxw q1
          have q2 := Ext.cell_some hxw q2
          obtain ⟨p3, n3, c3, e3, r3⟩ := hj 2 (by kernel_rfl)
          clear hj
          go_simp
          (try rw [e3])
          exact eqLabels_same L' S' _ _ br _ (HQ7.out.ext hxw) r3
        · have a0 := Ext.cell_some hxw a0
          have a1 := Ext.cell_some hxw a1
          have a2 := Ext.cell_some hxw a2
          have b0 := Ext.cell_some hxw b0
          have b1 := Ext.cell_some hxw b1
          have b2 := Ext.cell_some hxw b2
          have q0 := Ext.cell_some hxw q0
          have q1 := Ext.cell_some hxw q1
          have q2 := Ext.cell_some hxw q2
          clear hj
          go_simp
          try go_bits
          first | rfl | (rw [if_pos (by omega), if_pos (by omega)]; go_simp; rfl) | (rw [if_pos (by omega)]; go_simp; rfl) | skip
      case' hx8_3_p =>
        intro vs w8 hx8 hk
        have k2 : (LabJ L' S' br) (vs 2) w8 := hk 2 _ rfl
        clear hk
        replace a0 := Ext.cell_some hx8 a0
        replace a1 := Ext.cell_some hx8 a1
        replace a2 := Ext.cell_some hx8 a2
        replace b0 := Ext.cell_some hx8 b0
        replace b1 := Ext.cell_some hx8 b1
        replace b2 := Ext.cell_some hx8 b2
        replace q0 := Ext.cell_some hx8 q0
        replace q1 := Ext.cell_some hx8 q1
        replace q2 := Ext.cell_some hx8 q2
        replace E := Ext.trans E hx8
        go_simp
        clear k2 hx8
        go_wp2
        go_ret
        exact ⟨rfl, E⟩

set_option maxRecDepth 100000 in
set_option linter.unusedVariables false in
theorem fnExactEqualLabels_lifted (os : Os) (started : os.Started) (H : Type) (enc : TypeId × Value → H) :
    ReturnsInHanded {} Try.checked os 3 .any (Rows.fnExactEqualLabelsSpec.pre6 enc Try.prog Try.f3 Rows.fnExactEqualLabelsRow.domain false) (Rows.fnExactEqualLabelsSpec.post enc Try.prog Try.f3 false true false false) := by
  refine returnsInHanded_of_change (C := Try.checked) own started (by kernel_rfl) Try.func3
    (ChangeSpec.witness6 (enc := enc) (C := Try.checked) false ⟨#[], #[.agg #[.int .i64 0, .int .i64 0, .slice none 0 0], .agg #[.int .i64 0, .int .i64 0, .slice none 0 0]], []⟩ 8 (by kernel_rfl) (by kernel_rfl) (by kernel_rfl) (by kernel_rfl)) ?_
  intro W base args ds gs before hval0 hW hcnd _
  have hval : ∀ (j : Nat) t v, Try.f3.params[j]? = some t → args[j]? = some v → Value.okWide Try.prog W .any base t v := hval0
  have hW' := hW
  obtain ⟨p, q, hA0, hV, rfl, hfz, hnd⟩ := hW
  have hA : DataW.TrodAll enc Try.prog W 0 (fun _ => true) true Try.f3.params.toList args.toList ds p := hA0
  rw [Try.params3] at hA hval
  obtain ⟨v0, vs0, d0, ds0, p0, q0, hargs, rfl, rfl, h0, r0⟩ := trodAll_cons hA
  obtain ⟨v1, vs1, d1, ds1, p1, q1, rfl, rfl, rfl, h1, r1⟩ := trodAll_cons r0
  obtain ⟨rfl, rfl, rfl⟩ := trodAll_nil r1
  obtain rfl : args = #[v0, v1] := by cases args; simp_all
  obtain ⟨rfl, rfl⟩ := trodVars_none hV
  have k0 := h0
  have lt0 : ∀ x ∈ p0, x.block < W.heap.size := by obtain ⟨m, hm⟩ := k0; exact DataW.trod_lt m _ _ _ hm
  obtain ⟨x0, y0, u0, xs0, rfl, wx0, wy0, rd0⟩ := labels_of_trod Try.underlying24 Try.underlying3 Try.underlying3 Try.underlying22 Try.underlying44 Try.underlying3 Try.underlying3 Try.underlying3 (by kernel_rfl) (by kernel_rfl) (by kernel_rfl) (by kernel_rfl) (by kernel_rfl) (by kernel_rfl) (by kernel_rfl) (by kernel_rfl) (by kernel_rfl) (hval 0 24 v0 rfl rfl) h0
  have k1 := h1
  have lt1 : ∀ x ∈ p1, x.block < W.heap.size := by obtain ⟨m, hm⟩ := k1; exact DataW.trod_lt m _ _ _ hm
  obtain ⟨x1, y1, u1, xs1, rfl, wx1, wy1, rd1⟩ := labels_of_trod Try.underlying24 Try.underlying3 Try.underlying3 Try.underlying22 Try.underlying44 Try.underlying3 Try.underlying3 Try.underlying3 (by kernel_rfl) (by kernel_rfl) (by kernel_rfl) (by kernel_rfl) (by kernel_rfl) (by kernel_rfl) (by kernel_rfl) (by kernel_rfl) (by kernel_rfl) (hval 1 24 v1 rfl rfl) h1
  clear hA0 hval0
  refine (exactEqualLabels_any x0 y0 u0 xs0 x1 y1 u1 xs1 W wx0 wy0 rd0 wx1 wy1 rd1).mono fun e W' ⟨he, bel⟩ => ?_
  subst he
  exact ⟨_, rfl, _, _, _, [], _, [], hW', trodAll_mk1 (shut_bool Try.underlying4 _), (trodAll_cons_mk (Below.trod laidOut (by kernel_rfl) (of_decide_eq_true (by kernel_rfl)) k0 bel lt0) (trodAll_cons_mk (Below.trod laidOut (by kernel_rfl) (of_decide_eq_true (by kernel_rfl)) k1 bel lt1) trodAll_mk0)), rfl, Below.frame bel _, fun h => by cases h⟩

theorem fnExactEqualLabels_holds : Rows.FnExactEqualLabelsSaid :=
  OpenClaim.holds_of_wide 3 Try.f3 rfl rfl rfl rfl rfl rfl rfl ⟨rfl, rfl, rfl, rfl, rfl⟩ rfl rfl rfl rfl rfl (by kernel_rfl) Try.func3 (by show joinedFacts Try.prog 3 Try.f3 Rows.fnExactEqualLabelsSpec Rows.fnExactEqualLabelsRow = true; unfold joinedFacts; rw [mayEnter_it, liftsFinal_it, make_it]; kernel_rfl)
    (of_decide_eq_true (by kernel_rfl)) (by unfold Func.isWrapper; first | (rw [if_pos (by decide +kernel)]; kernel_rfl) | (rw [if_neg (by decide +kernel)]; exact ⟨rfl, rfl⟩))
    (fun os started H enc _ => fnExactEqualLabels_lifted os started H enc)
end Go.Proofs.Ytmageeidjhnkjaa
