/- Contract: the reference's places through which a way goes that is infinite in both directions. -/
import Derived.Test.YtfkdpeifnfpldaaLiveA
namespace Go.Proofs.Ytfkdpeifnfpldaa
open Go.RowKit Go.Cm

def isT : Option Value → Bool
  | some (.bool true) => true
  | _ => false
/-- how many cells of a block are true -/
def trueIn (w : World) (g : Nat) : Nat → Nat
  | 0 => 0
  | n + 1 => trueIn w g n + (if isT (w.cell? ⟨g, n, none⟩) = true then 1 else 0)
def leftOver (g N : Nat) (v : Value) (w : World) : Nat := if isT (some v) = true then 1 + trueIn w g N else 0
theorem cntT_take (l : List Bool) : ∀ n, n ≤ l.length → cntT (l.take n) = (List.range n).foldl (fun s j => s + if l.getD j false = true then 1 else 0) 0
  | 0, _ => by simp [cntT]
  | n + 1, h => by
    have ih := cntT_take l n (by omega)
    rw [List.range_succ, List.foldl_append, ← ih, List.take_succ_eq_append_getElem (by omega)]
    unfold cntT
    rw [List.map_append, List.sum_append, List.foldl_cons, List.foldl_nil, List.getD_eq_getElem?_getD, List.getElem?_eq_getElem (show n < l.length by omega)]
    simp only [List.map_cons, List.map_nil, List.sum_cons, List.sum_nil, Option.getD_some, Nat.add_zero]
theorem trueIn_eq {w : World} {B g N c : Nat} {E : TypeId} {l : List Bool} (h : Own w B E (.slice (some ⟨g, 0, none⟩) N c) (tcells l)) (hl : l.length = N) : trueIn w g N = cntT l := by
  have h1 : ∀ n, n ≤ N → trueIn w g n = (List.range n).foldl (fun s j => s + if l.getD j false = true then 1 else 0) 0 := by
    intro n
    induction n with
    | zero => intro _; rfl
    | succ n ih =>
      intro hn
      rw [List.range_succ, List.foldl_append, ← ih (by omega)]
      have hc := h.cell n (by rw [tcells_length, hl]; omega)
      rw [tcells_at _ _ (by omega)] at hc
      show trueIn w g n + (if isT (w.cell? ⟨g, n, none⟩) = true then 1 else 0) = _
      rw [hc, List.foldl_cons, List.foldl_nil]
      cases l.getD n false <;> rfl
  rw [h1 N (Nat.le_refl _), ← cntT_take l N (by omega), List.take_of_length_le (by omega)]

set_option maxRecDepth 100000 in
set_option maxHeartbeats 8000000 in
theorem spec_l13Live_any (t : List (List Nat)) (g N cap B : Nat) (fs : List Value) (w : World) (hT : Tab w B 63 3 (.slice (some ⟨g, 0, none⟩) N cap) fs (t.map ncells)) (hN : N = t.length) (hf : Fits t) :
    Calls Try.prog 72 #[.slice (some ⟨g, 0, none⟩) N cap] w fun e w' => ∃ z c, e = .returned (.slice (some ⟨z, 0, none⟩) N c) ∧ Own w' w.heap.size 4 (.slice (some ⟨z, 0, none⟩) N c) (tcells (livelyL t)) ∧ Ext w w' := by
  have hN100 : N ≤ 100 := by have := hf.n; omega
  have HN := Lib.hid hN
  clear hN
  have hmk := run_make_row' (P := Try.prog) 76 4 (.bool false) 1 Try.underlying76 infoBool rfl .i64 .i64 N (by omega) (by omega)
  have hz0 : Own (w.alloc (.cells (madeCells #[.bool false] N) 4)) w.heap.size 4 (.slice (some ⟨w.heap.size, 0, none⟩) N N) (tcells (trueTo N 0)) := by
    have h := Own.made w 4 (.bool false) N (by unfold maxLen; omega)
    rw [← tcells_replicate] at h
    simpa [trueTo] using h
  have hx0 := Ext.alloc w (.cells (madeCells #[.bool false] N) 4)
  go_enter Try.func72, Try.ntmps72
  go_wp2
  go_loopw [4] (fun i wr => ∃ k : Nat, k ≤ N ∧ i = .int .i64 k ∧ Own wr w.heap.size 4 (.slice (some ⟨w.heap.size, 0, none⟩) N N) (tcells (trueTo N k)) ∧ Ext w wr) (fun i _ => N - (intOf i).toNat)
  case atStart => exact ⟨0, by omega, rfl, hz0, hx0⟩
  case round =>
    clear hz0 hx0
    obtain ⟨k, hk, rfl, hz, hx⟩ := hrel
    by_cases hlt : k < N
    · have hcell := hz.cell k (by rw [tcells_length, trueTo_length N k hk]; exact hlt)
      have hfr := hz.frozen k
      have hz' := hz.store k (.bool true)
      rw [tcells_set, trueTo_set N k hlt] at hz'
      have hx' : Ext w (wr.setCell ⟨w.heap.size, k, none⟩ (.bool true)) := Ext.stored hx (Nat.le_refl _)
      clear hz hx
      go_wp2
      go_roundw
      case rel => exact ⟨k + 1, by omega, by go_num, hz', hx'⟩
      case measure => simp [intOf]; omega
    · have hkN : k = N := by omega
      have hz1 : Own wr w.heap.size 4 (.slice (some ⟨w.heap.size, 0, none⟩) N N) (tcells (liveN t 0)) := by
        have e : trueTo N k = liveN t 0 := by rw [hkN]; simp [trueTo, liveN, HN.out]
        rw [← e]; exact hz
      clear hz
      subst hkN
      obtain ⟨w1, rfl⟩ : ∃ w1 : World, w1 = wr := ⟨_, rfl⟩
      have hc0 : cntT (liveN t 0) + 0 ≤ k := by
        have h1 := cntT_le (liveN t 0)
        rw [liveN_length, ← HN.out] at h1
        omega
      go_wp2
      go_loopw [5] (fun f wr => ∃ q : Nat, Own wr w.heap.size 4 (.slice (some ⟨w.heap.size, 0, none⟩) k k) (tcells (liveN t q)) ∧ cntT (liveN t q) + q ≤ k ∧ (f = .bool true ∨ (f = .bool false ∧ goneL t (liveN t q) t.length = false)) ∧ Ext w wr) (fun f wr => leftOver w.heap.size k f wr)
      case atStart => exact ⟨0, hz1, hc0, .inl rfl, hx⟩
      case round =>
        clear hz1 hx hc0
        obtain ⟨q, hz, hcq, hflag, hx⟩ := hrel
        rcases hflag with rfl | ⟨rfl, hg⟩
        · obtain ⟨w2, rfl⟩ : ∃ w2 : World, w2 = wr := ⟨_, rfl⟩
          have hl := liveN_length t q
          rw [← HN.out] at hl
          have hmeas := trueIn_eq hz hl
          obtain ⟨l, hl0⟩ : ∃ l, l = liveN t q := ⟨_, rfl⟩
          have hstep : liveN t (q + 1) = liveStep t l := by rw [hl0]; rfl
          rw [← hl0] at hz hl hcq hmeas
          have HL := Lib.hid (And.intro hl (And.intro hstep (And.intro hcq (And.intro hmeas hl0))))
          have hA : Own ((w2.alloc (.cells (madeCells #[.bool false] k) 4)).alloc (.cells (madeCells #[.bool false] k) 4)) w.heap.size 4 (.slice (some ⟨w2.heap.size, 0, none⟩) k k) (tcells (List.replicate k false)) := by
            rw [tcells_replicate]
            exact ((Own.made w2 4 (.bool false) k (by unfold maxLen; omega)).ext (Ext.alloc _ _)).mono (Ext.size hx)
          have hB : Own ((w2.alloc (.cells (madeCells #[.bool false] k) 4)).alloc (.cells (madeCells #[.bool false] k) 4)) w.heap.size 4 (.slice (some ⟨w2.heap.size + 1, 0, none⟩) k k) (tcells (List.replicate k false)) := by
            rw [tcells_replicate]
            have h := (Own.made (w2.alloc (.cells (madeCells #[.bool false] k) 4)) 4 (.bool false) k (by unfold maxLen; omega))
            simp only [World.size_alloc] at h
            exact h.mono (by have := Ext.size hx; omega)
          have hx3 : Ext w ((w2.alloc (.cells (madeCells #[.bool false] k) 4)).alloc (.cells (madeCells #[.bool false] k) 4)) := (hx.trans (Ext.alloc _ _)).trans (Ext.alloc _ _)
          have hz3 := (hz.ext (Ext.alloc w2 (.cells (madeCells #[.bool false] k) 4))).ext (Ext.alloc _ (.cells (madeCells #[.bool false] k) 4))
          have hzl : w.heap.size < w2.heap.size := by
            rcases hz.shape with ⟨h, _⟩ | ⟨g', cap', h, _, h2, _⟩
            · cases h
            · cases h; exact h2
          clear hl hl0 hstep hz hx hcq hmeas
          go_wp2
          obtain ⟨W3, hW3⟩ : ∃ W3 : World, W3 = ((w2.alloc (.cells (madeCells #[.bool false] k) 4)).alloc (.cells (madeCells #[.bool false] k) 4)) := ⟨_, rfl⟩
          rw [← hW3] at hA hB hz3 hx3 ⊢
          clear hW3
          obtain ⟨Z1, hZ1⟩ : ∃ Z1, Z1 = w2.heap.size + 1 := ⟨_, rfl⟩
          rw [← hZ1] at hB ⊢
          obtain ⟨Z0, hZ0⟩ : ∃ Z0, Z0 = w2.heap.size := ⟨_, rfl⟩
          have HZ := Lib.hid hZ0
          rw [← hZ0] at hA hzl hZ1 ⊢
          have hfu : Z0 ≠ Z1 := by omega
          have hf0 : w.heap.size < Z0 := by omega
          have hu0 : w.heap.size < Z1 := by omega
          have hF0 : Own W3 w.heap.size 4 (.slice (some ⟨Z0, 0, none⟩) k k) (tcells (fromL k l (arcsTo t 0))) := by
            have e : arcsTo t 0 = [] := rfl
            rw [e, fromL_nil]; exact hA
          have hU0 : Own W3 w.heap.size 4 (.slice (some ⟨Z1, 0, none⟩) k k) (tcells (toL k l (arcsTo t 0))) := by
            have e : arcsTo t 0 = [] := rfl
            rw [e, toL_nil]; exact hB
          clear hA hB hZ1 hZ0 hzl
          go_loopw [8] (fun i wr => ∃ i' : Nat, i' ≤ k ∧ i = .int .i64 i' ∧ Own wr w.heap.size 4 (.slice (some ⟨Z0, 0, none⟩) k k) (tcells (fromL k l (arcsTo t i'))) ∧ Own wr w.heap.size 4 (.slice (some ⟨Z1, 0, none⟩) k k) (tcells (toL k l (arcsTo t i'))) ∧ Own wr w.heap.size 4 (.slice (some ⟨w.heap.size, 0, none⟩) k k) (tcells l) ∧ Ext w wr) (fun i _ => k - (intOf i).toNat)
          case atStart => exact ⟨0, by omega, rfl, hF0, hU0, hz3, hx3⟩
          case round =>
            clear hF0 hU0 hz3 hx3
            obtain ⟨i, hi, rfl, hF, hU, hz, hx⟩ := hrel
            by_cases hlti : i < k
            · obtain ⟨gi, ci, hrc0, hrow⟩ := tab_row hT i (by rw [← HN.out]; exact hlti)
              have hR100 := hf.rows i
              have hRe := hf.ents i
              have hsucc := fun p h => arcsIn_succ t i p h
              have hall := arcsIn_all t i
              rw [← arcsIn_zero] at hF hU
              obtain ⟨R, hR⟩ : ∃ R, R = t.getD i [] := ⟨_, rfl⟩
              rw [← hR] at hrc0 hrow hR100 hRe hsucc hall
              rw [← HN.out] at hRe
              obtain ⟨L, hL⟩ : ∃ L, L = R.length := ⟨_, rfl⟩
              rw [← hL] at hrc0 hrow hR100 hRe hsucc hall
              have HR := Lib.hid (And.intro hRe (And.intro hsucc (And.intro hall (And.intro hL hrc0))))
              clear hR hRe hsucc hall hL hrc0
              obtain ⟨w4, rfl⟩ : ∃ w4 : World, w4 = wr := ⟨_, rfl⟩
              go_wp2
              go_loopw [9] (fun j wr => ∃ p : Nat, p ≤ L ∧ j = .int .i64 p ∧ Own wr w.heap.size 4 (.slice (some ⟨Z0, 0, none⟩) k k) (tcells (fromL k l (arcsIn t i p))) ∧ Own wr w.heap.size 4 (.slice (some ⟨Z1, 0, none⟩) k k) (tcells (toL k l (arcsIn t i p))) ∧ Own wr w.heap.size 4 (.slice (some ⟨w.heap.size, 0, none⟩) k k) (tcells l) ∧ Ext w wr) (fun j _ => L - (intOf j).toNat)
              case atStart => exact ⟨0, by omega, rfl, hF, hU, hz, hx⟩
              case round =>
                clear hF hU hz
                obtain ⟨p, hp, rfl, hF, hU, hz, hxp⟩ := hrel
                have hrc := hxp.cell_some HR.out.2.2.2.2
                by_cases hltp : p < L
                · have hcr := (hrow.ext hxp).cell p (by rw [ncells_length, ← HR.out.2.2.2.1]; exact hltp)
                  rw [ncells_at _ _ (by rw [← HR.out.2.2.2.1]; exact hltp)] at hcr
                  have hek := HR.out.1 p hltp
                  have hsucc := HR.out.2.1 p hltp
                  obtain ⟨e, he⟩ : ∃ e, e = R.getD p 0 := ⟨_, rfl⟩
                  rw [← he] at hcr hek hsucc
                  have hl := HL.out.1
                  have hca := hz.cell i (by rw [tcells_length, hl]; exact hlti)
                  have hcb := hz.cell e (by rw [tcells_length, hl]; exact hek)
                  rw [tcells_at _ _ (by rw [hl]; exact hlti)] at hca
                  rw [tcells_at _ _ (by rw [hl]; exact hek)] at hcb
                  have hon : onB l (i, e) = (l.getD i false && l.getD e false) := rfl
                  obtain ⟨x, hx'⟩ : ∃ x, x = l.getD i false := ⟨_, rfl⟩
                  obtain ⟨y, hy'⟩ : ∃ y, y = l.getD e false := ⟨_, rfl⟩
                  rw [← hx'] at hca hon
                  rw [← hy'] at hcb hon
                  have HS := Lib.hid (And.intro hsucc (And.intro hon he))
                  clear hsucc hon hx' hy' he hl
                  cases x with
                  | false =>
                    have hF' : Own wr w.heap.size 4 (.slice (some ⟨Z0, 0, none⟩) k k) (tcells (fromL k l (arcsIn t i (p + 1)))) := by rw [HS.out.1, fromL_off (by rw [HS.out.2.1]; rfl)]; exact hF
                    have hU' : Own wr w.heap.size 4 (.slice (some ⟨Z1, 0, none⟩) k k) (tcells (toL k l (arcsIn t i (p + 1)))) := by rw [HS.out.1, toL_off (by rw [HS.out.2.1]; rfl)]; exact hU
                    clear hF hU
                    go_wp2
                    go_roundw
                    case rel => exact ⟨p + 1, by omega, by go_num, hF', hU', hz, hxp⟩
                    case measure => simp [intOf]; omega
                  | true => cases y with
                  | false =>
                    have hF' : Own wr w.heap.size 4 (.slice (some ⟨Z0, 0, none⟩) k k) (tcells (fromL k l (arcsIn t i (p + 1)))) := by rw [HS.out.1, fromL_off (by rw [HS.out.2.1]; rfl)]; exact hF
                    have hU' : Own wr w.heap.size 4 (.slice (some ⟨Z1, 0, none⟩) k k) (tcells (toL k l (arcsIn t i (p + 1)))) := by rw [HS.out.1, toL_off (by rw [HS.out.2.1]; rfl)]; exact hU
                    clear hF hU
                    go_wp2
                    go_roundw
                    case rel => exact ⟨p + 1, by omega, by go_num, hF', hU', hz, hxp⟩
                    case measure => simp [intOf]; omega
                  | true =>
                    have hlF := fromL_length k l (arcsIn t i p)
                    have hlU := toL_length k l (arcsIn t i p)
                    have hcf := hF.cell i (by rw [tcells_length, hlF]; exact hlti)
                    have hcu := hU.cell e (by rw [tcells_length, hlU]; exact hek)
                    rw [tcells_at _ _ (by rw [hlF]; exact hlti)] at hcf
                    rw [tcells_at _ _ (by rw [hlU]; exact hek)] at hcu
                    have hff := hF.frozen i
                    have hfuz := hU.frozen e
                    have hF1 := Own.other (hF.store i (.bool true)) (g2 := Z1) (by omega) e (.bool true)
                    have hU1 := (Own.other hU (g2 := Z0) (by omega) i (.bool true)).store e (.bool true)
                    rw [tcells_set, ← fromL_on (p := (i, e)) (by rw [HS.out.2.1]; rfl), ← HS.out.1] at hF1
                    rw [tcells_set, ← toL_on (p := (i, e)) (by rw [HS.out.2.1]; rfl), ← HS.out.1] at hU1
                    have hz1 := Own.other (Own.other hz (g2 := Z0) (by omega) i (.bool true)) (g2 := Z1) (by omega) e (.bool true)
                    have hx1 : Ext w ((wr.setCell ⟨Z0, i, none⟩ (.bool true)).setCell ⟨Z1, e, none⟩ (.bool true)) := Ext.stored (Ext.stored hxp (by show _ ≤ Z0; omega)) (by show _ ≤ Z1; omega)
                    have hcu' : (wr.setCell ⟨Z0, i, none⟩ (.bool true)).cell? ⟨Z1, e, none⟩ = some (.bool ((toL k l (arcsIn t i p)).getD e false)) := by
                      rw [World.cell?_setCell_other _ _ _ _ (by intro h; injection h; omega)]
                      exact hcu
                    have hx2 : Ext w (wr.setCell ⟨Z0, i, none⟩ (.bool true)) := Ext.stored hxp (by show _ ≤ Z0; omega)
                    have hrc2 := hx2.cell_some HR.out.2.2.2.2
                    have hcr2 := (hrow.ext hx2).cell p (by rw [ncells_length, ← HR.out.2.2.2.1]; exact hltp)
                    rw [ncells_at _ _ (by rw [← HR.out.2.2.2.1]; exact hltp), ← HS.out.2.2] at hcr2
                    clear hF hU hlF hlU hcu hx2
                    go_wp2
                    go_roundw
                    case rel => exact ⟨p + 1, by omega, by go_num, hF1, hU1, hz1, hx1⟩
                    case measure => simp [intOf]; omega
                · have hpL : p = L := by omega
                  subst hpL
                  rw [HR.out.2.2.1] at hF hU
                  go_wp2
                  go_roundw
                  case rel => exact ⟨i + 1, by omega, by go_num, hF, hU, hz, hxp⟩
                  case measure => simp [intOf]; omega
            · have hik : i = k := by omega
              have hz5 : Own wr w.heap.size 4 (.slice (some ⟨w.heap.size, 0, none⟩) k k) (tcells (liveMix t l 0)) := by rw [liveMix_zero t l (by rw [← HN.out]; exact HL.out.1)]; exact hz
              subst hik
              clear hz
              obtain ⟨w5, rfl⟩ : ∃ w5 : World, w5 = wr := ⟨_, rfl⟩
              have hg0 : goneL t l 0 = false := by simp [goneL]
              go_wp2
              go_loopw [5, 10] (fun f j wr => ∃ j' : Nat, j' ≤ i ∧ j = .int .i64 j' ∧ f = .bool (goneL t l j') ∧ Own wr w.heap.size 4 (.slice (some ⟨Z0, 0, none⟩) i i) (tcells (fromL i l (arcsTo t i))) ∧ Own wr w.heap.size 4 (.slice (some ⟨Z1, 0, none⟩) i i) (tcells (toL i l (arcsTo t i))) ∧ Own wr w.heap.size 4 (.slice (some ⟨w.heap.size, 0, none⟩) i i) (tcells (liveMix t l j')) ∧ Ext w wr) (fun _ j _ => i - (intOf j).toNat)
              case atStart => exact ⟨0, by omega, rfl, by rw [hg0], hF, hU, hz5, hx⟩
              case round =>
                clear hF hU hz5 hx hg0
                obtain ⟨j, hj, rfl, rfl, hF, hU, hz, hx⟩ := hrel
                by_cases hltj : j < i
                · have hlm := liveMix_length t l j
                  rw [← HN.out] at hlm
                  have hca := hz.cell j (by rw [tcells_length, hlm]; exact hltj)
                  rw [tcells_at _ _ (by rw [hlm]; exact hltj), liveMix_at t l j (by rw [← HN.out]; exact hltj)] at hca
                  have hcf := hF.cell j (by rw [tcells_length, fromL_length]; exact hltj)
                  rw [tcells_at _ _ (by rw [fromL_length]; exact hltj)] at hcf
                  have hcu := hU.cell j (by rw [tcells_length, toL_length]; exact hltj)
                  rw [tcells_at _ _ (by rw [toL_length]; exact hltj)] at hcu
                  have hff := hz.frozen j
                  have hsucc := liveMix_succ t l j (by rw [← HN.out]; exact hltj)
                  have hkeep := liveMix_keep t l j (by rw [← HN.out]; exact hltj)
                  have hgs := goneL_succ t l j
                  have hst : stayB t l j = ((fromL i l (arcsTo t i)).getD j false && (toL i l (arcsTo t i)).getD j false) := by unfold stayB; rw [← HN.out]
                  obtain ⟨x, hx'⟩ : ∃ x, x = l.getD j false := ⟨_, rfl⟩
                  obtain ⟨y, hy'⟩ : ∃ y, y = (fromL i l (arcsTo t i)).getD j false := ⟨_, rfl⟩
                  obtain ⟨z, hz'⟩ : ∃ z, z = (toL i l (arcsTo t i)).getD j false := ⟨_, rfl⟩
                  rw [← hx'] at hca hsucc hkeep hgs
                  rw [← hy'] at hcf hst
                  rw [← hz'] at hcu hst
                  rw [hst] at hsucc hkeep hgs
                  obtain ⟨G, hG⟩ : ∃ G, G = goneL t l j := ⟨_, rfl⟩
                  rw [← hG] at hgs ⊢
                  have HS := Lib.hid (And.intro hsucc (And.intro hkeep hgs))
                  clear hsucc hkeep hgs hst hx' hy' hz' hlm hG
                  cases x with
                  | false =>
                    have hz1 : Own wr w.heap.size 4 (.slice (some ⟨w.heap.size, 0, none⟩) i i) (tcells (liveMix t l (j + 1))) := by rw [HS.out.2.1 rfl]; exact hz
                    have HG := Lib.hid (show goneL t l (j + 1) = G by rw [HS.out.2.2]; simp)
                    clear hz
                    go_wp2
                    go_roundw
                    case rel => exact ⟨j + 1, by omega, by go_num, by rw [HG.out], hF, hU, hz1, hx⟩
                    case measure => simp [intOf]; omega
                  | true => cases y with
                  | false =>
                    have hz1 := hz.store j (.bool false)
                    have hz1 : Own (wr.setCell ⟨w.heap.size, j, none⟩ (.bool false)) w.heap.size 4 (.slice (some ⟨w.heap.size, 0, none⟩) i i) (tcells (liveMix t l (j + 1))) := by
                      rw [tcells_set] at hz1
                      rw [HS.out.1]
                      exact hz1
                    have hF1 := Own.other hF (g2 := w.heap.size) (by omega) j (.bool false)
                    have hU1 := Own.other hU (g2 := w.heap.size) (by omega) j (.bool false)
                    have hx1 : Ext w (wr.setCell ⟨w.heap.size, j, none⟩ (.bool false)) := Ext.stored hx (Nat.le_refl _)
                    have HG := Lib.hid (show goneL t l (j + 1) = true by rw [HS.out.2.2]; simp)
                    clear hz hF hU hx
                    go_wp2
                    go_roundw
                    case rel => exact ⟨j + 1, by omega, by go_num, by rw [HG.out], hF1, hU1, hz1, hx1⟩
                    case measure => simp [intOf]; omega
                  | true => cases z with
                  | false =>
                    have hz1 := hz.store j (.bool false)
                    have hz1 : Own (wr.setCell ⟨w.heap.size, j, none⟩ (.bool false)) w.heap.size 4 (.slice (some ⟨w.heap.size, 0, none⟩) i i) (tcells (liveMix t l (j + 1))) := by
                      rw [tcells_set] at hz1
                      rw [HS.out.1]
                      exact hz1
                    have hF1 := Own.other hF (g2 := w.heap.size) (by omega) j (.bool false)
                    have hU1 := Own.other hU (g2 := w.heap.size) (by omega) j (.bool false)
                    have hx1 : Ext w (wr.setCell ⟨w.heap.size, j, none⟩ (.bool false)) := Ext.stored hx (Nat.le_refl _)
                    have HG := Lib.hid (show goneL t l (j + 1) = true by rw [HS.out.2.2]; simp)
                    clear hz hF hU hx
                    go_wp2
                    go_roundw
                    case rel => exact ⟨j + 1, by omega, by go_num, by rw [HG.out], hF1, hU1, hz1, hx1⟩
                    case measure => simp [intOf]; omega
                  | true =>
                    have hz1 : Own wr w.heap.size 4 (.slice (some ⟨w.heap.size, 0, none⟩) i i) (tcells (liveMix t l (j + 1))) := by rw [HS.out.2.1 rfl]; exact hz
                    have HG := Lib.hid (show goneL t l (j + 1) = G by rw [HS.out.2.2]; simp)
                    clear hz
                    go_wp2
                    go_roundw
                    case rel => exact ⟨j + 1, by omega, by go_num, by rw [HG.out], hF, hU, hz1, hx⟩
                    case measure => simp [intOf]; omega
                · have hji : j = i := by omega
                  have hll := HL.out.1
                  cases hg : goneL t l j with
                  | true =>
                    have hless := live_less (next := t) (l := l) (by rw [← HN.out]; exact hll) (by rw [← HN.out, ← hji]; exact hg)
                    rw [← HL.out.2.1] at hless
                    have hz6 : Own wr w.heap.size 4 (.slice (some ⟨w.heap.size, 0, none⟩) i i) (tcells (liveN t (q + 1))) := by
                      rw [HL.out.2.1]
                      unfold liveStep
                      rw [← HN.out, ← hji]
                      rw [hji] at hz ⊢
                      exact hz
                    have hm6 := trueIn_eq hz6 (by rw [liveN_length, ← HN.out])
                    have HM := Lib.hid (And.intro hless hm6)
                    clear hless hm6 hll
                    have HG := Lib.hid (And.intro hg (liveN_length t (q + 1)))
                    clear hg
                    go_wp2
                    go_roundw
                    case rel => exact ⟨q + 1, hz6, by have h1 := HM.out.1; have h2 := HL.out.2.2.1; omega, .inl rfl, hx⟩
                    case measure =>
                      have h1 := HM.out.1
                      have h2 := HM.out.2
                      have h3 := HL.out.2.2.2.1
                      simp only [leftOver, isT, if_true]
                      omega
                  | false =>
                    have hgl : goneL t l t.length = false := by rw [← HN.out, ← hji]; exact hg
                    have hst := live_still (next := t) (l := l) (by rw [← HN.out]; exact hll) hgl
                    have hz6 : Own wr w.heap.size 4 (.slice (some ⟨w.heap.size, 0, none⟩) i i) (tcells (liveN t q)) := by
                      rw [← HL.out.2.2.2.2, ← hst]
                      unfold liveStep
                      rw [← HN.out, ← hji]
                      rw [hji] at hz ⊢
                      exact hz
                    have HG := Lib.hid (And.intro hg hgl)
                    clear hg hgl hst hll
                    go_wp2
                    go_roundw
                    case rel => exact ⟨q, hz6, by rw [← HL.out.2.2.2.2]; exact HL.out.2.2.1, .inr ⟨rfl, by rw [← HL.out.2.2.2.2]; exact HG.out.2⟩, hx⟩
                    case measure =>
                      simp only [leftOver, isT, if_true]
                      simp
                      omega
        · have e : liveN t q = livelyL t := livelyL_of (by rw [← HN.out]; exact hcq) hg
          rw [e] at hz
          have HE := Lib.hid hg
          clear hcq hg e
          go_wp2
          go_ret
          exact ⟨w.heap.size, k, rfl, hz, hx⟩
end Go.Proofs.Ytfkdpeifnfpldaa
