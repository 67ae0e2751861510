/- Contract: the program's lively places of a graph. -/
import Derived.Test.YtfiembmfkokllaaGreatPkD
import Derived.Test.YtfiembmfkokllaaGreatTab
import Derived.Test.YtfiembmfkokllaaGreatSrcA
import Derived.Test.YtfiembmfkokllaaGreatPkA
import Derived.BigRegion
namespace Go.Proofs.YtfiembmfkokllaaGreat
open Go.RowKit Go.Cm

theorem infoBool : (Tryz.prog.info? 4).map (fun i => (i.zero, i.size, i.bytes)) = some (some (.bool false), 1, 1) := by kernel_rfl

/-- true in the first k places -/
def trueTo (N k : Nat) : List Bool := List.replicate k true ++ List.replicate (N - k) false
theorem trueTo_set (N k : Nat) (h : k < N) : (trueTo N k).set k true = trueTo N (k + 1) := by
  unfold trueTo
  rw [List.set_append_right _ _ (by simp), List.length_replicate, Nat.sub_self, show N - k = (N - (k + 1)) + 1 by omega, List.replicate_succ, List.set_cons_zero, List.replicate_succ', List.append_assoc]
  rfl
theorem trueTo_length (N k : Nat) (h : k ≤ N) : (trueTo N k).length = N := by simp [trueTo]; omega

/-- numbers within a bound -/
structure Fits (t : List (List Nat)) : Prop where
  n : t.length ≤ 100
  rows : ∀ i, (t.getD i []).length ≤ 100
  ents : ∀ i p, p < (t.getD i []).length → (t.getD i []).getD p 0 < t.length

theorem map_ncells_getD (t : List (List Nat)) (i : Nat) : (t.map ncells).getD i [] = ncells (t.getD i []) := by
  rw [List.getD_eq_getElem?_getD, List.getD_eq_getElem?_getD, List.getElem?_map]
  cases t[i]? <;> rfl
theorem tab_row {w : World} {B g N cap : Nat} {T E : TypeId} {fs : List Value} {t : List (List Nat)} (h : Tab w B T E (.slice (some ⟨g, 0, none⟩) N cap) fs (t.map ncells)) (i : Nat) (hi : i < t.length) :
    ∃ gi ci, w.cell? ⟨g, i, none⟩ = some (.slice (some ⟨gi, 0, none⟩) (t.getD i []).length ci) ∧ Own w B E (.slice (some ⟨gi, 0, none⟩) (t.getD i []).length ci) (ncells (t.getD i [])) := by
  obtain ⟨gi, ci, h1, h2⟩ := h.spot i (by simpa using hi)
  rw [map_ncells_getD, ncells_length] at h1 h2
  exact ⟨gi, ci, h1, h2⟩

set_option maxRecDepth 100000 in
set_option maxHeartbeats 8000000 in
theorem impl_lively_any (t : List (List Nat)) (g N cap B : Nat) (fs : List Value) (w : World) (hT : Tab w B 52 3 (.slice (some ⟨g, 0, none⟩) N cap) fs (t.map ncells)) (hN : N = t.length) (hf : Fits t) :
    Calls Tryz.prog 75 #[.slice (some ⟨g, 0, none⟩) N cap] w fun e w' => ∃ z c, e = .returned (.slice (some ⟨z, 0, none⟩) N c) ∧ Own w' w.heap.size 4 (.slice (some ⟨z, 0, none⟩) N c) (tcells (livelyL t)) ∧ Ext w w' := by
  have hN100 : N ≤ 100 := by have := hf.n; omega
  have HN := Lib.hid hN
  clear hN
  have hmk := run_make_row' (P := Tryz.prog) 81 4 (.bool false) 1 Tryz.underlying81 infoBool rfl .i64 .i64 N (by omega) (by omega)
  have hz0 : Own (w.alloc (.cells (madeCells #[.bool false] N) 4)) w.heap.size 4 (.slice (some ⟨w.heap.size, 0, none⟩) N N) (tcells (trueTo N 0)) := by
    have h := Own.made w 4 (.bool false) N (by unfold maxLen; omega)
    rw [← tcells_replicate] at h
    simpa [trueTo] using h
  have hx0 := Ext.alloc w (.cells (madeCells #[.bool false] N) 4)
  go_enter Tryz.func75, Tryz.ntmps75
  go_wp2
  go_loopw [17] (fun i wr => ∃ k : Nat, k ≤ N ∧ i = .int .i64 k ∧ Own wr w.heap.size 4 (.slice (some ⟨w.heap.size, 0, none⟩) N N) (tcells (trueTo N k)) ∧ Ext w wr) (fun i _ => N - (intOf i).toNat)
  case atStart => exact ⟨0, by omega, rfl, hz0, hx0⟩
  case round =>
    clear hz0 hx0
    obtain ⟨k, hk, rfl, hz, hx⟩ := hrel
    by_cases hlt : k < N
    · have hcell := hz.cell k (by rw [tcells_length, trueTo_length N k hk]; exact hlt)
      have hfr := hz.frozen k
      have hz' := hz.store k (.bool true)
      rw [tcells_set, trueTo_set N k hlt] at hz'
      have hx' : Ext w (wr.setCell ⟨w.heap.size, k, none⟩ (.bool true)) := Ext.stored hx (Nat.le_refl _)
      clear hz hx
      go_wp2
      go_roundw
      case rel => exact ⟨k + 1, by omega, by go_num, hz', hx'⟩
      case measure => simp [intOf]; omega
    · have hkN : k = N := by omega
      have hz1 : Own wr w.heap.size 4 (.slice (some ⟨w.heap.size, 0, none⟩) N N) (tcells (liveN t 0)) := by
        have e : trueTo N k = liveN t 0 := by rw [hkN]; simp [trueTo, liveN, HN.out]
        rw [← e]; exact hz
      clear hz
      subst hkN
      obtain ⟨w1, rfl⟩ : ∃ w1 : World, w1 = wr := ⟨_, rfl⟩
      go_wp2
      go_loopw [26] (fun i wr => ∃ q : Nat, q ≤ k ∧ i = .int .i64 q ∧ Own wr w.heap.size 4 (.slice (some ⟨w.heap.size, 0, none⟩) k k) (tcells (liveN t q)) ∧ Ext w wr) (fun i _ => k - (intOf i).toNat)
      case atStart => exact ⟨0, by omega, rfl, hz1, hx⟩
      case round =>
        clear hz1 hx
        obtain ⟨q, hq, rfl, hz, hx⟩ := hrel
        by_cases hltq : q < k
        · obtain ⟨w2, rfl⟩ : ∃ w2 : World, w2 = wr := ⟨_, rfl⟩
          have hl := liveN_length t q
          rw [← HN.out] at hl
          obtain ⟨l, hl0⟩ : ∃ l, l = liveN t q := ⟨_, rfl⟩
          have hstep : liveN t (q + 1) = liveStep t l := by rw [hl0]; rfl
          rw [← hl0] at hz hl
          have HL := Lib.hid (And.intro hl hstep)
          have hA : Own ((w2.alloc (.cells (madeCells #[.bool false] k) 4)).alloc (.cells (madeCells #[.bool false] k) 4)).drew w.heap.size 4 (.slice (some ⟨w2.heap.size, 0, none⟩) k k) (tcells (List.replicate k false)) := by
            rw [tcells_replicate]
            exact (((Own.made w2 4 (.bool false) k (by unfold maxLen; omega)).ext (Ext.alloc _ _)).ext (Ext.drew _)).mono (Ext.size hx)
          have hB : Own ((w2.alloc (.cells (madeCells #[.bool false] k) 4)).alloc (.cells (madeCells #[.bool false] k) 4)).drew w.heap.size 4 (.slice (some ⟨w2.heap.size + 1, 0, none⟩) k k) (tcells (List.replicate k false)) := by
            rw [tcells_replicate]
            have h := ((Own.made (w2.alloc (.cells (madeCells #[.bool false] k) 4)) 4 (.bool false) k (by unfold maxLen; omega)).ext (Ext.drew _))
            simp only [World.size_alloc] at h
            exact h.mono (by have := Ext.size hx; omega)
          have hx3 : Ext w ((w2.alloc (.cells (madeCells #[.bool false] k) 4)).alloc (.cells (madeCells #[.bool false] k) 4)).drew := ((hx.trans (Ext.alloc _ _)).trans (Ext.alloc _ _)).trans (Ext.drew _)
          have hz3 := ((hz.ext (Ext.alloc w2 (.cells (madeCells #[.bool false] k) 4))).ext (Ext.alloc _ (.cells (madeCells #[.bool false] k) 4))).ext (Ext.drew _)
          have hsz := Ext.size hx
          have hzl : w.heap.size < w2.heap.size := by
            rcases hz.shape with ⟨h, _⟩ | ⟨g', cap', h, _, h2, _⟩
            · cases h
            · cases h; exact h2
          clear hl hl0 hstep hz hx hsz
          go_wp2
          go_region
          · go_wp2
            obtain ⟨W3, hW3⟩ : ∃ W3 : World, W3 = ((w2.alloc (.cells (madeCells #[.bool false] k) 4)).alloc (.cells (madeCells #[.bool false] k) 4)).drew := ⟨_, rfl⟩
            rw [← hW3] at hA hB hz3 hx3 ⊢
            clear hW3
            obtain ⟨Z1, hZ1⟩ : ∃ Z1, Z1 = w2.heap.size + 1 := ⟨_, rfl⟩
            rw [← hZ1] at hB ⊢
            obtain ⟨Z0, hZ0⟩ : ∃ Z0, Z0 = w2.heap.size := ⟨_, rfl⟩
            rw [← hZ0] at hA hzl hZ1 ⊢
            have hfu : Z0 ≠ Z1 := by omega
            have hf0 : w.heap.size < Z0 := by omega
            have hu0 : w.heap.size < Z1 := by omega
            have hF0 : Own W3 w.heap.size 4 (.slice (some ⟨Z0, 0, none⟩) k k) (tcells (fromL k l (arcsTo t 0))) := by
              have e : arcsTo t 0 = [] := rfl
              rw [e, fromL_nil]; exact hA
            have hU0 : Own W3 w.heap.size 4 (.slice (some ⟨Z1, 0, none⟩) k k) (tcells (toL k l (arcsTo t 0))) := by
              have e : arcsTo t 0 = [] := rfl
              rw [e, toL_nil]; exact hB
            clear hA hB hZ1 hZ0 hzl
            go_loopw [36] (fun i wr => ∃ i' : Nat, i' ≤ k ∧ i = .int .i64 i' ∧ Own wr w.heap.size 4 (.slice (some ⟨Z0, 0, none⟩) k k) (tcells (fromL k l (arcsTo t i'))) ∧ Own wr w.heap.size 4 (.slice (some ⟨Z1, 0, none⟩) k k) (tcells (toL k l (arcsTo t i'))) ∧ Own wr w.heap.size 4 (.slice (some ⟨w.heap.size, 0, none⟩) k k) (tcells l) ∧ Ext w wr) (fun i _ => k - (intOf i).toNat)
            case atStart => exact ⟨0, by omega, rfl, hF0, hU0, hz3, hx3⟩
            case round =>
              clear hF0 hU0 hz3 hx3
              obtain ⟨i, hi, rfl, hF, hU, hz, hx⟩ := hrel
              by_cases hlti : i < k
              · obtain ⟨gi, ci, hrc, hrow⟩ := tab_row hT i (by rw [← HN.out]; exact hlti)
                have hrc := hx.cell_some hrc
                have hR100 := hf.rows i
                have hRe := hf.ents i
                have hsucc := fun p h => arcsIn_succ t i p h
                have hall := arcsIn_all t i
                rw [← arcsIn_zero] at hF hU
                obtain ⟨R, hR⟩ : ∃ R, R = t.getD i [] := ⟨_, rfl⟩
                rw [← hR] at hrc hrow hR100 hRe hsucc hall
                rw [← HN.out] at hRe
                obtain ⟨L, hL⟩ : ∃ L, L = R.length := ⟨_, rfl⟩
                rw [← hL] at hrc hrow hR100 hRe hsucc hall
                have HR := Lib.hid (And.intro hRe (And.intro hsucc (And.intro hall hL)))
                clear hR hRe hsucc hall hL
                obtain ⟨w4, rfl⟩ : ∃ w4 : World, w4 = wr := ⟨_, rfl⟩
                go_wp2
                go_loopw [43] (fun j wr => ∃ p : Nat, p ≤ L ∧ j = .int .i64 p ∧ Own wr w.heap.size 4 (.slice (some ⟨Z0, 0, none⟩) k k) (tcells (fromL k l (arcsIn t i p))) ∧ Own wr w.heap.size 4 (.slice (some ⟨Z1, 0, none⟩) k k) (tcells (toL k l (arcsIn t i p))) ∧ Own wr w.heap.size 4 (.slice (some ⟨w.heap.size, 0, none⟩) k k) (tcells l) ∧ Ext w wr) (fun j _ => L - (intOf j).toNat)
                case atStart => exact ⟨0, by omega, rfl, hF, hU, hz, hx⟩
                case round =>
                  clear hF hU hz
                  obtain ⟨p, hp, rfl, hF, hU, hz, hxp⟩ := hrel
                  by_cases hltp : p < L
                  · have hcr := (hrow.ext hxp).cell p (by rw [ncells_length, ← HR.out.2.2.2]; exact hltp)
                    rw [ncells_at _ _ (by rw [← HR.out.2.2.2]; exact hltp)] at hcr
                    have hek := HR.out.1 p hltp
                    have hsucc := HR.out.2.1 p hltp
                    obtain ⟨e, he⟩ : ∃ e, e = R.getD p 0 := ⟨_, rfl⟩
                    rw [← he] at hcr hek hsucc
                    have hl := HL.out.1
                    have hca := hz.cell i (by rw [tcells_length, hl]; exact hlti)
                    have hcb := hz.cell e (by rw [tcells_length, hl]; exact hek)
                    rw [tcells_at _ _ (by rw [hl]; exact hlti)] at hca
                    rw [tcells_at _ _ (by rw [hl]; exact hek)] at hcb
                    have hon : onB l (i, e) = (l.getD i false && l.getD e false) := rfl
                    obtain ⟨x, hx'⟩ : ∃ x, x = l.getD i false := ⟨_, rfl⟩
                    obtain ⟨y, hy'⟩ : ∃ y, y = l.getD e false := ⟨_, rfl⟩
                    rw [← hx'] at hca hon
                    rw [← hy'] at hcb hon
                    have HS := Lib.hid (And.intro hsucc hon)
                    clear hsucc hon hx' hy' he hl
                    cases x with
                    | false =>
                      have hF' : Own wr w.heap.size 4 (.slice (some ⟨Z0, 0, none⟩) k k) (tcells (fromL k l (arcsIn t i (p + 1)))) := by rw [HS.out.1, fromL_off (by rw [HS.out.2]; rfl)]; exact hF
                      have hU' : Own wr w.heap.size 4 (.slice (some ⟨Z1, 0, none⟩) k k) (tcells (toL k l (arcsIn t i (p + 1)))) := by rw [HS.out.1, toL_off (by rw [HS.out.2]; rfl)]; exact hU
                      clear hF hU
                      go_wp2
                      go_roundw
                      case rel => exact ⟨p + 1, by omega, by go_num, hF', hU', hz, hxp⟩
                      case measure => simp [intOf]; omega
                    | true => cases y with
                    | false =>
                      have hF' : Own wr w.heap.size 4 (.slice (some ⟨Z0, 0, none⟩) k k) (tcells (fromL k l (arcsIn t i (p + 1)))) := by rw [HS.out.1, fromL_off (by rw [HS.out.2]; rfl)]; exact hF
                      have hU' : Own wr w.heap.size 4 (.slice (some ⟨Z1, 0, none⟩) k k) (tcells (toL k l (arcsIn t i (p + 1)))) := by rw [HS.out.1, toL_off (by rw [HS.out.2]; rfl)]; exact hU
                      clear hF hU
                      go_wp2
                      go_roundw
                      case rel => exact ⟨p + 1, by omega, by go_num, hF', hU', hz, hxp⟩
                      case measure => simp [intOf]; omega
                    | true =>
                      have hlF := fromL_length k l (arcsIn t i p)
                      have hlU := toL_length k l (arcsIn t i p)
                      have hcf := hF.cell i (by rw [tcells_length, hlF]; exact hlti)
                      have hcu := hU.cell e (by rw [tcells_length, hlU]; exact hek)
                      rw [tcells_at _ _ (by rw [hlF]; exact hlti)] at hcf
                      rw [tcells_at _ _ (by rw [hlU]; exact hek)] at hcu
                      have hff := hF.frozen i
                      have hfuz := hU.frozen e
                      have hF1 := Own.other (hF.store i (.bool true)) (g2 := Z1) (by omega) e (.bool true)
                      have hU1 := (Own.other hU (g2 := Z0) (by omega) i (.bool true)).store e (.bool true)
                      rw [tcells_set, ← fromL_on (p := (i, e)) (by rw [HS.out.2]; rfl), ← HS.out.1] at hF1
                      rw [tcells_set, ← toL_on (p := (i, e)) (by rw [HS.out.2]; rfl), ← HS.out.1] at hU1
                      have hz1 := Own.other (Own.other hz (g2 := Z0) (by omega) i (.bool true)) (g2 := Z1) (by omega) e (.bool true)
                      have hx1 : Ext w ((wr.setCell ⟨Z0, i, none⟩ (.bool true)).setCell ⟨Z1, e, none⟩ (.bool true)) := Ext.stored (Ext.stored hxp (by show _ ≤ Z0; omega)) (by show _ ≤ Z1; omega)
                      have hcu' : (wr.setCell ⟨Z0, i, none⟩ (.bool true)).cell? ⟨Z1, e, none⟩ = some (.bool ((toL k l (arcsIn t i p)).getD e false)) := by
                        rw [World.cell?_setCell_other _ _ _ _ (by intro h; injection h; omega)]
                        exact hcu
                      clear hF hU hlF hlU hcu
                      go_wp2
                      go_roundw
                      case rel => exact ⟨p + 1, by omega, by go_num, hF1, hU1, hz1, hx1⟩
                      case measure => simp [intOf]; omega
                  · have hpL : p = L := by omega
                    subst hpL
                    rw [HR.out.2.2.1] at hF hU
                    go_wp2
                    go_roundw
                    case rel => exact ⟨i + 1, by omega, by go_num, hF, hU, hz, hxp⟩
                    case measure => simp [intOf]; omega
              · have hik : i = k := by omega
                have hz5 : Own wr w.heap.size 4 (.slice (some ⟨w.heap.size, 0, none⟩) k k) (tcells (liveMix t l 0)) := by rw [liveMix_zero t l (by rw [← HN.out]; exact HL.out.1)]; exact hz
                subst hik
                clear hz
                obtain ⟨w5, rfl⟩ : ∃ w5 : World, w5 = wr := ⟨_, rfl⟩
                go_wp2
                go_loopw [67] (fun j wr => ∃ j' : Nat, j' ≤ i ∧ j = .int .i64 j' ∧ Own wr w.heap.size 4 (.slice (some ⟨Z0, 0, none⟩) i i) (tcells (fromL i l (arcsTo t i))) ∧ Own wr w.heap.size 4 (.slice (some ⟨Z1, 0, none⟩) i i) (tcells (toL i l (arcsTo t i))) ∧ Own wr w.heap.size 4 (.slice (some ⟨w.heap.size, 0, none⟩) i i) (tcells (liveMix t l j')) ∧ Ext w wr) (fun j _ => i - (intOf j).toNat)
                case atStart => exact ⟨0, by omega, rfl, hF, hU, hz5, hx⟩
                case round =>
                  clear hF hU hz5 hx
                  obtain ⟨j, hj, rfl, hF, hU, hz, hx⟩ := hrel
                  by_cases hltj : j < i
                  · have hlm := liveMix_length t l j
                    rw [← HN.out] at hlm
                    have hca := hz.cell j (by rw [tcells_length, hlm]; exact hltj)
                    rw [tcells_at _ _ (by rw [hlm]; exact hltj), liveMix_at t l j (by rw [← HN.out]; exact hltj)] at hca
                    have hcf := hF.cell j (by rw [tcells_length, fromL_length]; exact hltj)
                    rw [tcells_at _ _ (by rw [fromL_length]; exact hltj)] at hcf
                    have hcu := hU.cell j (by rw [tcells_length, toL_length]; exact hltj)
                    rw [tcells_at _ _ (by rw [toL_length]; exact hltj)] at hcu
                    have hff := hz.frozen j
                    have hsucc := liveMix_succ t l j (by rw [← HN.out]; exact hltj)
                    have hst : stayB t l j = ((fromL i l (arcsTo t i)).getD j false && (toL i l (arcsTo t i)).getD j false) := by unfold stayB; rw [← HN.out]
                    obtain ⟨x, hx'⟩ : ∃ x, x = l.getD j false := ⟨_, rfl⟩
                    obtain ⟨y, hy'⟩ : ∃ y, y = (fromL i l (arcsTo t i)).getD j false := ⟨_, rfl⟩
                    obtain ⟨z, hz'⟩ : ∃ z, z = (toL i l (arcsTo t i)).getD j false := ⟨_, rfl⟩
                    rw [← hx'] at hca hsucc
                    rw [← hy'] at hcf hst
                    rw [← hz'] at hcu hst
                    have HS := Lib.hid (And.intro hsucc hst)
                    clear hsucc hst hx' hy' hz' hlm
                    cases x with
                    | false =>
                      have hz1 := hz.store j (.bool false)
                      have hz1 : Own (wr.setCell ⟨w.heap.size, j, none⟩ (.bool false)) w.heap.size 4 (.slice (some ⟨w.heap.size, 0, none⟩) i i) (tcells (liveMix t l (j + 1))) := by
                        rw [tcells_set] at hz1
                        rw [HS.out.1, HS.out.2]
                        exact hz1
                      have hF1 := Own.other hF (g2 := w.heap.size) (by omega) j (.bool false)
                      have hU1 := Own.other hU (g2 := w.heap.size) (by omega) j (.bool false)
                      have hx1 : Ext w (wr.setCell ⟨w.heap.size, j, none⟩ (.bool false)) := Ext.stored hx (Nat.le_refl _)
                      clear hz hF hU hx
                      go_wp2
                      go_roundw
                      case rel => exact ⟨j + 1, by omega, by go_num, hF1, hU1, hz1, hx1⟩
                      case measure => simp [intOf]; omega
                    | true => cases y with
                    | false =>
                      have hz1 := hz.store j (.bool false)
                      have hz1 : Own (wr.setCell ⟨w.heap.size, j, none⟩ (.bool false)) w.heap.size 4 (.slice (some ⟨w.heap.size, 0, none⟩) i i) (tcells (liveMix t l (j + 1))) := by
                        rw [tcells_set] at hz1
                        rw [HS.out.1, HS.out.2]
                        exact hz1
                      have hF1 := Own.other hF (g2 := w.heap.size) (by omega) j (.bool false)
                      have hU1 := Own.other hU (g2 := w.heap.size) (by omega) j (.bool false)
                      have hx1 : Ext w (wr.setCell ⟨w.heap.size, j, none⟩ (.bool false)) := Ext.stored hx (Nat.le_refl _)
                      clear hz hF hU hx
                      go_wp2
                      go_roundw
                      case rel => exact ⟨j + 1, by omega, by go_num, hF1, hU1, hz1, hx1⟩
                      case measure => simp [intOf]; omega
                    | true => cases z with
                    | false =>
                      have hz1 := hz.store j (.bool false)
                      have hz1 : Own (wr.setCell ⟨w.heap.size, j, none⟩ (.bool false)) w.heap.size 4 (.slice (some ⟨w.heap.size, 0, none⟩) i i) (tcells (liveMix t l (j + 1))) := by
                        rw [tcells_set] at hz1
                        rw [HS.out.1, HS.out.2]
                        exact hz1
                      have hF1 := Own.other hF (g2 := w.heap.size) (by omega) j (.bool false)
                      have hU1 := Own.other hU (g2 := w.heap.size) (by omega) j (.bool false)
                      have hx1 : Ext w (wr.setCell ⟨w.heap.size, j, none⟩ (.bool false)) := Ext.stored hx (Nat.le_refl _)
                      clear hz hF hU hx
                      go_wp2
                      go_roundw
                      case rel => exact ⟨j + 1, by omega, by go_num, hF1, hU1, hz1, hx1⟩
                      case measure => simp [intOf]; omega
                    | true =>
                      have hz1 := hz.store j (.bool true)
                      have hz1 : Own (wr.setCell ⟨w.heap.size, j, none⟩ (.bool true)) w.heap.size 4 (.slice (some ⟨w.heap.size, 0, none⟩) i i) (tcells (liveMix t l (j + 1))) := by
                        rw [tcells_set] at hz1
                        rw [HS.out.1, HS.out.2]
                        exact hz1
                      have hF1 := Own.other hF (g2 := w.heap.size) (by omega) j (.bool true)
                      have hU1 := Own.other hU (g2 := w.heap.size) (by omega) j (.bool true)
                      have hx1 : Ext w (wr.setCell ⟨w.heap.size, j, none⟩ (.bool true)) := Ext.stored hx (Nat.le_refl _)
                      clear hz hF hU hx
                      go_wp2
                      go_roundw
                      case rel => exact ⟨j + 1, by omega, by go_num, hF1, hU1, hz1, hx1⟩
                      case measure => simp [intOf]; omega
                  · have hji : j = i := by omega
                    have hz6 : Own wr w.heap.size 4 (.slice (some ⟨w.heap.size, 0, none⟩) i i) (tcells (liveN t (q + 1))) := by
                      rw [HL.out.2]
                      unfold liveStep
                      rw [← HN.out, ← hji]
                      rw [hji] at hz ⊢
                      exact hz
                    subst hji
                    go_wp2
                    go_roundw
                    case rel => exact ⟨q + 1, by omega, by go_num, hz6, hx⟩
                    case measure => simp [intOf]; omega
          · go_wp2
            obtain ⟨W3, hW3⟩ : ∃ W3 : World, W3 = ((w2.alloc (.cells (madeCells #[.bool false] k) 4)).alloc (.cells (madeCells #[.bool false] k) 4)).drew := ⟨_, rfl⟩
            rw [← hW3] at hA hB hz3 hx3 ⊢
            clear hW3
            obtain ⟨Z1, hZ1⟩ : ∃ Z1, Z1 = w2.heap.size + 1 := ⟨_, rfl⟩
            rw [← hZ1] at hB ⊢
            obtain ⟨Z0, hZ0⟩ : ∃ Z0, Z0 = w2.heap.size := ⟨_, rfl⟩
            rw [← hZ0] at hA hzl hZ1 ⊢
            have hfu : Z1 ≠ Z0 := by omega
            have hf0 : w.heap.size < Z1 := by omega
            have hu0 : w.heap.size < Z0 := by omega
            have hF0 : Own W3 w.heap.size 4 (.slice (some ⟨Z1, 0, none⟩) k k) (tcells (fromL k l (arcsTo t 0))) := by
              have e : arcsTo t 0 = [] := rfl
              rw [e, fromL_nil]; exact hB
            have hU0 : Own W3 w.heap.size 4 (.slice (some ⟨Z0, 0, none⟩) k k) (tcells (toL k l (arcsTo t 0))) := by
              have e : arcsTo t 0 = [] := rfl
              rw [e, toL_nil]; exact hA
            clear hA hB hZ1 hZ0 hzl
            go_loopw [36] (fun i wr => ∃ i' : Nat, i' ≤ k ∧ i = .int .i64 i' ∧ Own wr w.heap.size 4 (.slice (some ⟨Z1, 0, none⟩) k k) (tcells (fromL k l (arcsTo t i'))) ∧ Own wr w.heap.size 4 (.slice (some ⟨Z0, 0, none⟩) k k) (tcells (toL k l (arcsTo t i'))) ∧ Own wr w.heap.size 4 (.slice (some ⟨w.heap.size, 0, none⟩) k k) (tcells l) ∧ Ext w wr) (fun i _ => k - (intOf i).toNat)
            case atStart => exact ⟨0, by omega, rfl, hF0, hU0, hz3, hx3⟩
            case round =>
              clear hF0 hU0 hz3 hx3
              obtain ⟨i, hi, rfl, hF, hU, hz, hx⟩ := hrel
              by_cases hlti : i < k
              · obtain ⟨gi, ci, hrc, hrow⟩ := tab_row hT i (by rw [← HN.out]; exact hlti)
                have hrc := hx.cell_some hrc
                have hR100 := hf.rows i
                have hRe := hf.ents i
                have hsucc := fun p h => arcsIn_succ t i p h
                have hall := arcsIn_all t i
                rw [← arcsIn_zero] at hF hU
                obtain ⟨R, hR⟩ : ∃ R, R = t.getD i [] := ⟨_, rfl⟩
                rw [← hR] at hrc hrow hR100 hRe hsucc hall
                rw [← HN.out] at hRe
                obtain ⟨L, hL⟩ : ∃ L, L = R.length := ⟨_, rfl⟩
                rw [← hL] at hrc hrow hR100 hRe hsucc hall
                have HR := Lib.hid (And.intro hRe (And.intro hsucc (And.intro hall hL)))
                clear hR hRe hsucc hall hL
                obtain ⟨w4, rfl⟩ : ∃ w4 : World, w4 = wr := ⟨_, rfl⟩
                go_wp2
                go_loopw [43] (fun j wr => ∃ p : Nat, p ≤ L ∧ j = .int .i64 p ∧ Own wr w.heap.size 4 (.slice (some ⟨Z1, 0, none⟩) k k) (tcells (fromL k l (arcsIn t i p))) ∧ Own wr w.heap.size 4 (.slice (some ⟨Z0, 0, none⟩) k k) (tcells (toL k l (arcsIn t i p))) ∧ Own wr w.heap.size 4 (.slice (some ⟨w.heap.size, 0, none⟩) k k) (tcells l) ∧ Ext w wr) (fun j _ => L - (intOf j).toNat)
                case atStart => exact ⟨0, by omega, rfl, hF, hU, hz, hx⟩
                case round =>
                  clear hF hU hz
                  obtain ⟨p, hp, rfl, hF, hU, hz, hxp⟩ := hrel
                  by_cases hltp : p < L
                  · have hcr := (hrow.ext hxp).cell p (by rw [ncells_length, ← HR.out.2.2.2]; exact hltp)
                    rw [ncells_at _ _ (by rw [← HR.out.2.2.2]; exact hltp)] at hcr
                    have hek := HR.out.1 p hltp
                    have hsucc := HR.out.2.1 p hltp
                    obtain ⟨e, he⟩ : ∃ e, e = R.getD p 0 := ⟨_, rfl⟩
                    rw [← he] at hcr hek hsucc
                    have hl := HL.out.1
                    have hca := hz.cell i (by rw [tcells_length, hl]; exact hlti)
                    have hcb := hz.cell e (by rw [tcells_length, hl]; exact hek)
                    rw [tcells_at _ _ (by rw [hl]; exact hlti)] at hca
                    rw [tcells_at _ _ (by rw [hl]; exact hek)] at hcb
                    have hon : onB l (i, e) = (l.getD i false && l.getD e false) := rfl
                    obtain ⟨x, hx'⟩ : ∃ x, x = l.getD i false := ⟨_, rfl⟩
                    obtain ⟨y, hy'⟩ : ∃ y, y = l.getD e false := ⟨_, rfl⟩
                    rw [← hx'] at hca hon
                    rw [← hy'] at hcb hon
                    have HS := Lib.hid (And.intro hsucc hon)
                    clear hsucc hon hx' hy' he hl
                    cases x with
                    | false =>
                      have hF' : Own wr w.heap.size 4 (.slice (some ⟨Z1, 0, none⟩) k k) (tcells (fromL k l (arcsIn t i (p + 1)))) := by rw [HS.out.1, fromL_off (by rw [HS.out.2]; rfl)]; exact hF
                      have hU' : Own wr w.heap.size 4 (.slice (some ⟨Z0, 0, none⟩) k k) (tcells (toL k l (arcsIn t i (p + 1)))) := by rw [HS.out.1, toL_off (by rw [HS.out.2]; rfl)]; exact hU
                      clear hF hU
                      go_wp2
                      go_roundw
                      case rel => exact ⟨p + 1, by omega, by go_num, hF', hU', hz, hxp⟩
                      case measure => simp [intOf]; omega
                    | true => cases y with
                    | false =>
                      have hF' : Own wr w.heap.size 4 (.slice (some ⟨Z1, 0, none⟩) k k) (tcells (fromL k l (arcsIn t i (p + 1)))) := by rw [HS.out.1, fromL_off (by rw [HS.out.2]; rfl)]; exact hF
                      have hU' : Own wr w.heap.size 4 (.slice (some ⟨Z0, 0, none⟩) k k) (tcells (toL k l (arcsIn t i (p + 1)))) := by rw [HS.out.1, toL_off (by rw [HS.out.2]; rfl)]; exact hU
                      clear hF hU
                      go_wp2
                      go_roundw
                      case rel => exact ⟨p + 1, by omega, by go_num, hF', hU', hz, hxp⟩
                      case measure => simp [intOf]; omega
                    | true =>
                      have hlF := fromL_length k l (arcsIn t i p)
                      have hlU := toL_length k l (arcsIn t i p)
                      have hcf := hF.cell i (by rw [tcells_length, hlF]; exact hlti)
                      have hcu := hU.cell e (by rw [tcells_length, hlU]; exact hek)
                      rw [tcells_at _ _ (by rw [hlF]; exact hlti)] at hcf
                      rw [tcells_at _ _ (by rw [hlU]; exact hek)] at hcu
                      have hff := hF.frozen i
                      have hfuz := hU.frozen e
                      have hF1 := Own.other (hF.store i (.bool true)) (g2 := Z0) (by omega) e (.bool true)
                      have hU1 := (Own.other hU (g2 := Z1) (by omega) i (.bool true)).store e (.bool true)
                      rw [tcells_set, ← fromL_on (p := (i, e)) (by rw [HS.out.2]; rfl), ← HS.out.1] at hF1
                      rw [tcells_set, ← toL_on (p := (i, e)) (by rw [HS.out.2]; rfl), ← HS.out.1] at hU1
                      have hz1 := Own.other (Own.other hz (g2 := Z1) (by omega) i (.bool true)) (g2 := Z0) (by omega) e (.bool true)
                      have hx1 : Ext w ((wr.setCell ⟨Z1, i, none⟩ (.bool true)).setCell ⟨Z0, e, none⟩ (.bool true)) := Ext.stored (Ext.stored hxp (by show _ ≤ Z1; omega)) (by show _ ≤ Z0; omega)
                      have hcu' : (wr.setCell ⟨Z1, i, none⟩ (.bool true)).cell? ⟨Z0, e, none⟩ = some (.bool ((toL k l (arcsIn t i p)).getD e false)) := by
                        rw [World.cell?_setCell_other _ _ _ _ (by intro h; injection h; omega)]
                        exact hcu
                      clear hF hU hlF hlU hcu
                      go_wp2
                      go_roundw
                      case rel => exact ⟨p + 1, by omega, by go_num, hF1, hU1, hz1, hx1⟩
                      case measure => simp [intOf]; omega
                  · have hpL : p = L := by omega
                    subst hpL
                    rw [HR.out.2.2.1] at hF hU
                    go_wp2
                    go_roundw
                    case rel => exact ⟨i + 1, by omega, by go_num, hF, hU, hz, hxp⟩
                    case measure => simp [intOf]; omega
              · have hik : i = k := by omega
                have hz5 : Own wr w.heap.size 4 (.slice (some ⟨w.heap.size, 0, none⟩) k k) (tcells (liveMix t l 0)) := by rw [liveMix_zero t l (by rw [← HN.out]; exact HL.out.1)]; exact hz
                subst hik
                clear hz
                obtain ⟨w5, rfl⟩ : ∃ w5 : World, w5 = wr := ⟨_, rfl⟩
                go_wp2
                go_loopw [67] (fun j wr => ∃ j' : Nat, j' ≤ i ∧ j = .int .i64 j' ∧ Own wr w.heap.size 4 (.slice (some ⟨Z1, 0, none⟩) i i) (tcells (fromL i l (arcsTo t i))) ∧ Own wr w.heap.size 4 (.slice (some ⟨Z0, 0, none⟩) i i) (tcells (toL i l (arcsTo t i))) ∧ Own wr w.heap.size 4 (.slice (some ⟨w.heap.size, 0, none⟩) i i) (tcells (liveMix t l j')) ∧ Ext w wr) (fun j _ => i - (intOf j).toNat)
                case atStart => exact ⟨0, by omega, rfl, hF, hU, hz5, hx⟩
                case round =>
                  clear hF hU hz5 hx
                  obtain ⟨j, hj, rfl, hF, hU, hz, hx⟩ := hrel
                  by_cases hltj : j < i
                  · have hlm := liveMix_length t l j
                    rw [← HN.out] at hlm
                    have hca := hz.cell j (by rw [tcells_length, hlm]; exact hltj)
                    rw [tcells_at _ _ (by rw [hlm]; exact hltj), liveMix_at t l j (by rw [← HN.out]; exact hltj)] at hca
                    have hcf := hF.cell j (by rw [tcells_length, fromL_length]; exact hltj)
                    rw [tcells_at _ _ (by rw [fromL_length]; exact hltj)] at hcf
                    have hcu := hU.cell j (by rw [tcells_length, toL_length]; exact hltj)
                    rw [tcells_at _ _ (by rw [toL_length]; exact hltj)] at hcu
                    have hff := hz.frozen j
                    have hsucc := liveMix_succ t l j (by rw [← HN.out]; exact hltj)
                    have hst : stayB t l j = ((fromL i l (arcsTo t i)).getD j false && (toL i l (arcsTo t i)).getD j false) := by unfold stayB; rw [← HN.out]
                    obtain ⟨x, hx'⟩ : ∃ x, x = l.getD j false := ⟨_, rfl⟩
                    obtain ⟨y, hy'⟩ : ∃ y, y = (fromL i l (arcsTo t i)).getD j false := ⟨_, rfl⟩
                    obtain ⟨z, hz'⟩ : ∃ z, z = (toL i l (arcsTo t i)).getD j false := ⟨_, rfl⟩
                    rw [← hx'] at hca hsucc
                    rw [← hy'] at hcf hst
                    rw [← hz'] at hcu hst
                    have HS := Lib.hid (And.intro hsucc hst)
                    clear hsucc hst hx' hy' hz' hlm
                    cases x with
                    | false =>
                      have hz1 := hz.store j (.bool false)
                      have hz1 : Own (wr.setCell ⟨w.heap.size, j, none⟩ (.bool false)) w.heap.size 4 (.slice (some ⟨w.heap.size, 0, none⟩) i i) (tcells (liveMix t l (j + 1))) := by
                        rw [tcells_set] at hz1
                        rw [HS.out.1, HS.out.2]
                        exact hz1
                      have hF1 := Own.other hF (g2 := w.heap.size) (by omega) j (.bool false)
                      have hU1 := Own.other hU (g2 := w.heap.size) (by omega) j (.bool false)
                      have hx1 : Ext w (wr.setCell ⟨w.heap.size, j, none⟩ (.bool false)) := Ext.stored hx (Nat.le_refl _)
                      clear hz hF hU hx
                      go_wp2
                      go_roundw
                      case rel => exact ⟨j + 1, by omega, by go_num, hF1, hU1, hz1, hx1⟩
                      case measure => simp [intOf]; omega
                    | true => cases y with
                    | false =>
                      have hz1 := hz.store j (.bool false)
                      have hz1 : Own (wr.setCell ⟨w.heap.size, j, none⟩ (.bool false)) w.heap.size 4 (.slice (some ⟨w.heap.size, 0, none⟩) i i) (tcells (liveMix t l (j + 1))) := by
                        rw [tcells_set] at hz1
                        rw [HS.out.1, HS.out.2]
                        exact hz1
                      have hF1 := Own.other hF (g2 := w.heap.size) (by omega) j (.bool false)
                      have hU1 := Own.other hU (g2 := w.heap.size) (by omega) j (.bool false)
                      have hx1 : Ext w (wr.setCell ⟨w.heap.size, j, none⟩ (.bool false)) := Ext.stored hx (Nat.le_refl _)
                      clear hz hF hU hx
                      go_wp2
                      go_roundw
                      case rel => exact ⟨j + 1, by omega, by go_num, hF1, hU1, hz1, hx1⟩
                      case measure => simp [intOf]; omega
                    | true => cases z with
                    | false =>
                      have hz1 := hz.store j (.bool false)
                      have hz1 : Own (wr.setCell ⟨w.heap.size, j, none⟩ (.bool false)) w.heap.size 4 (.slice (some ⟨w.heap.size, 0, none⟩) i i) (tcells (liveMix t l (j + 1))) := by
                        rw [tcells_set] at hz1
                        rw [HS.out.1, HS.out.2]
                        exact hz1
                      have hF1 := Own.other hF (g2 := w.heap.size) (by omega) j (.bool false)
                      have hU1 := Own.other hU (g2 := w.heap.size) (by omega) j (.bool false)
                      have hx1 : Ext w (wr.setCell ⟨w.heap.size, j, none⟩ (.bool false)) := Ext.stored hx (Nat.le_refl _)
                      clear hz hF hU hx
                      go_wp2
                      go_roundw
                      case rel => exact ⟨j + 1, by omega, by go_num, hF1, hU1, hz1, hx1⟩
                      case measure => simp [intOf]; omega
                    | true =>
                      have hz1 := hz.store j (.bool true)
                      have hz1 : Own (wr.setCell ⟨w.heap.size, j, none⟩ (.bool true)) w.heap.size 4 (.slice (some ⟨w.heap.size, 0, none⟩) i i) (tcells (liveMix t l (j + 1))) := by
                        rw [tcells_set] at hz1
                        rw [HS.out.1, HS.out.2]
                        exact hz1
                      have hF1 := Own.other hF (g2 := w.heap.size) (by omega) j (.bool true)
                      have hU1 := Own.other hU (g2 := w.heap.size) (by omega) j (.bool true)
                      have hx1 : Ext w (wr.setCell ⟨w.heap.size, j, none⟩ (.bool true)) := Ext.stored hx (Nat.le_refl _)
                      clear hz hF hU hx
                      go_wp2
                      go_roundw
                      case rel => exact ⟨j + 1, by omega, by go_num, hF1, hU1, hz1, hx1⟩
                      case measure => simp [intOf]; omega
                  · have hji : j = i := by omega
                    have hz6 : Own wr w.heap.size 4 (.slice (some ⟨w.heap.size, 0, none⟩) i i) (tcells (liveN t (q + 1))) := by
                      rw [HL.out.2]
                      unfold liveStep
                      rw [← HN.out, ← hji]
                      rw [hji] at hz ⊢
                      exact hz
                    subst hji
                    go_wp2
                    go_roundw
                    case rel => exact ⟨q + 1, by omega, by go_num, hz6, hx⟩
                    case measure => simp [intOf]; omega
        · have hqk : q = k := by omega
          have e : liveN t q = livelyL t := by unfold livelyL; rw [hqk, ← HN.out]
          rw [e] at hz
          go_wp2
          go_ret
          exact ⟨w.heap.size, k, rfl, hz, hx⟩
end Go.Proofs.YtfiembmfkokllaaGreat
