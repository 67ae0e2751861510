/- Contracts: products and powers of matrices, by the reference. -/
import Derived.Test.YtdngkfedkgiioaaDoorPowA
namespace Go.Proofs.YtdngkfedkgiioaaDoor
open Go.RowKit Go.Mx

set_option maxHeartbeats 2000000 in
theorem spec_MultiplyMatrices_any (v v' : Value) (a b : List (List Int)) (w : World) (h : ReadsRows w v a) (h' : ReadsRows w v' b) :
    Calls Tryd.prog 80 #[v, v'] w fun e w' => ∃ u, e = .returned (.tuple #[u, .bool (mulO a b).isSome]) ∧ ReadsRows w' u ((mulO a b).getD []) ∧ Ext w w' := by
  have ha := spec_IsMatrix_any v a w h
  have hb := spec_IsMatrix_any v' b w h'
  cases hma : isMat a with
  | false =>
    rw [hma] at ha
    have HI := Lib.hid (And.intro ha (mulO_no (a := a) (b := b) (by rw [hma]; rfl)))
    clear ha hb hma
    go_enter Tryd.func80, Tryd.ntmps80
    go_wp2_with (go_at_call 64; with_reducible refine HI.out.1.mono ?_; rintro e w' ⟨rfl, rfl⟩)
    go_ret2
    exact ⟨_, by rw [HI.out.2]; rfl, by rw [HI.out.2]; exact spec_nil_rows _, Ext.alloc _ _⟩
  | true => cases hmb : isMat b with
  | false =>
    rw [hma] at ha
    rw [hmb] at hb
    have HI := Lib.hid (And.intro ha (And.intro hb (mulO_no (a := a) (b := b) (by rw [hmb]; simp))))
    clear ha hb hma hmb
    go_enter Tryd.func80, Tryd.ntmps80
    go_wp2_with (first | (go_at_call 64; with_reducible refine HI.out.1.mono ?_; rintro e w' ⟨rfl, rfl⟩) | (go_at_call 64; with_reducible refine HI.out.2.1.mono ?_; rintro e w' ⟨rfl, rfl⟩))
    go_ret2
    exact ⟨_, by rw [HI.out.2.2]; rfl, by rw [HI.out.2.2]; exact spec_nil_rows _, Ext.alloc _ _⟩
  | true =>
    rw [hma] at ha
    rw [hmb] at hb
    obtain ⟨pa, ca, rfl⟩ := h.slice
    obtain ⟨pb, cb, rfl⟩ := h'.slice
    have hla2 := h.len.2.2
    have hlb2 := h'.len.2.2
    have hla1 := h.len.2.1
    have hlb1 := h'.len.2.1
    by_cases hl : a.length = b.length
    · have hMa := isMat_yes hma
      have hMb := isMat_yes hmb
      rw [hl] at hMa
      have ht := spec_l4Times_any _ _ a b b.length w h h' hMa hMb
      have hle : ((a.length : Int) != (b.length : Int)) = false := by simp [hl]
      cases hmp : isMat (mulM b.length a b) with
      | true =>
        have HI := Lib.hid (And.intro ha (And.intro hb (And.intro ht (And.intro (mulO_yes (a := a) (b := b) (by rw [hma, hmb]; rfl) hl hmp) hmp))))
        clear ha hb hma hmb h h' hMa hMb ht hmp hl
        go_enter Tryd.func80, Tryd.ntmps80
        go_wp2_with (first | (go_at_call 64; with_reducible refine HI.out.1.mono ?_; rintro e w' ⟨rfl, rfl⟩) | (go_at_call 64; with_reducible refine HI.out.2.1.mono ?_; rintro e w' ⟨rfl, rfl⟩) | (go_at_call 95; with_reducible refine HI.out.2.2.1.mono ?_; rintro e w1 ⟨u, rfl, hres, hx⟩) | (go_at_call 64; with_reducible refine (spec_IsMatrix_any _ _ _ hres).mono ?_; rintro e w' ⟨rfl, rfl⟩; rw [HI.out.2.2.2.2]))
        go_ret2
        exact ⟨_, by rw [HI.out.2.2.2.1]; rfl, by rw [HI.out.2.2.2.1]; exact hres, hx⟩
      | false =>
        have HI := Lib.hid (And.intro ha (And.intro hb (And.intro ht (And.intro (mulO_bad (a := a) (b := b) hmp) hmp))))
        clear ha hb hma hmb h h' hMa hMb ht hmp hl
        go_enter Tryd.func80, Tryd.ntmps80
        go_wp2_with (first | (go_at_call 64; with_reducible refine HI.out.1.mono ?_; rintro e w' ⟨rfl, rfl⟩) | (go_at_call 64; with_reducible refine HI.out.2.1.mono ?_; rintro e w' ⟨rfl, rfl⟩) | (go_at_call 95; with_reducible refine HI.out.2.2.1.mono ?_; rintro e w1 ⟨u, rfl, hres, hx⟩) | (go_at_call 64; with_reducible refine (spec_IsMatrix_any _ _ _ hres).mono ?_; rintro e w' ⟨rfl, rfl⟩; rw [HI.out.2.2.2.2]))
        go_ret2
        exact ⟨_, by rw [HI.out.2.2.2.1]; rfl, by rw [HI.out.2.2.2.1]; exact spec_nil_rows _, Ext.trans hx (Ext.alloc _ _)⟩
    · have hle : ((a.length : Int) != (b.length : Int)) = true := by simp; omega
      have HI := Lib.hid (And.intro ha (And.intro hb (mulO_len hl)))
      clear ha hb hma hmb h h' hl
      go_enter Tryd.func80, Tryd.ntmps80
      go_wp2_with (first | (go_at_call 64; with_reducible refine HI.out.1.mono ?_; rintro e w' ⟨rfl, rfl⟩) | (go_at_call 64; with_reducible refine HI.out.2.1.mono ?_; rintro e w' ⟨rfl, rfl⟩))
      go_ret2
      exact ⟨_, by rw [HI.out.2.2]; rfl, by rw [HI.out.2.2]; exact spec_nil_rows _, Ext.alloc _ _⟩

set_option maxHeartbeats 2000000 in
theorem spec_PowerMatrix_any (v : Value) (m : List (List Int)) (x : Int) (w : World) (h : ReadsRows w v m) :
    Calls Tryd.prog 44 #[v, .int .i64 x] w fun e w' => ∃ u, e = .returned (.tuple #[u, .bool (powO m x).isSome]) ∧ ReadsRows w' u ((powO m x).getD []) ∧ Ext w w' := by
  have hm := spec_IsMatrix_any v m w h
  cases hmm : isMat m with
  | false =>
    rw [hmm] at hm
    have HI := Lib.hid (And.intro hm (powO_no (n := x) hmm))
    clear hm hmm
    go_enter Tryd.func44, Tryd.ntmps44
    go_wp2_with (go_at_call 64; with_reducible refine HI.out.1.mono ?_; rintro e w' ⟨rfl, rfl⟩)
    go_ret2
    exact ⟨_, by rw [HI.out.2]; rfl, by rw [HI.out.2]; exact spec_nil_rows _, Ext.alloc _ _⟩
  | true =>
    rw [hmm] at hm
    by_cases hx0 : x < 0
    · have HI := Lib.hid (And.intro hm (powO_far (m := m) (.inl hx0)))
      clear hm hmm
      go_enter Tryd.func44, Tryd.ntmps44
      go_wp2_with (first | (go_at_call 64; with_reducible refine HI.out.1.mono ?_; rintro e w' ⟨rfl, rfl⟩) | (go_at_call 55; with_reducible refine (spec_l1In_no _ _ _ _ (by omega)).mono ?_; rintro e w' ⟨rfl, rfl⟩))
      go_ret2
      exact ⟨_, by rw [HI.out.2]; rfl, by rw [HI.out.2]; exact spec_nil_rows _, Ext.alloc _ _⟩
    by_cases hx1 : 30 < x
    · have HI := Lib.hid (And.intro hm (powO_far (m := m) (.inr hx1)))
      clear hm hmm
      go_enter Tryd.func44, Tryd.ntmps44
      go_wp2_with (first | (go_at_call 64; with_reducible refine HI.out.1.mono ?_; rintro e w' ⟨rfl, rfl⟩) | (go_at_call 55; with_reducible refine (spec_l1In_no _ _ _ _ (by omega)).mono ?_; rintro e w' ⟨rfl, rfl⟩))
      go_ret2
      exact ⟨_, by rw [HI.out.2]; rfl, by rw [HI.out.2]; exact spec_nil_rows _, Ext.alloc _ _⟩
    obtain ⟨N, rfl⟩ : ∃ N : Nat, x = (N : Int) := ⟨x.toNat, by omega⟩
    have hN : N ≤ 30 := by omega
    have hpy := powO_yes hmm hN
    rw [hpy]
    obtain ⟨pa, ca, rfl⟩ := h.slice
    have hM := isMat_yes hmm
    have hu := spec_l4One_any m.length w (by have := hM.le; omega)
    have h9 := hM.le
    have hla2 := h.len.2.2
    have HI := Lib.hid (And.intro hm (And.intro h hu))
    clear hm h hu hM hpy hmm
    go_enter Tryd.func44, Tryd.ntmps44
    go_wp2_with (first | (go_at_call 64; with_reducible refine HI.out.1.mono ?_; rintro e w' ⟨rfl, rfl⟩) | (go_at_call 55; with_reducible refine (spec_l1In_yes _ _ _ _ (by omega) (by omega)).mono ?_; rintro e w' ⟨rfl, rfl⟩) | (go_at_call 79; with_reducible refine HI.out.2.2.mono ?_; rintro e w1 ⟨u, rfl, hres, hx⟩; replace hres := hres.reads))
    go_loopw [6, 7] (fun v i wr => ∃ (k : Nat) (t : List (List Int)), k ≤ N ∧ i = .int .i64 k ∧ powM m k = some t ∧ ReadsRows wr v t ∧ Ext w wr) (fun _ i _ => N - (intOf i).toNat)
    case atStart => exact ⟨0, unitM m.length, by omega, rfl, rfl, hres, hx⟩
    case round =>
      clear hres hx
      obtain ⟨k, t, hk, rfl, hp, hres, hx⟩ := hrel
      by_cases hlt : k < N
      · have hmul := spec_MultiplyMatrices_any _ _ t m wr hres (HI.out.2.1.ext hx)
        rw [← powM_succ hp] at hmul
        have HP := Lib.hid (And.intro hmul hp)
        clear hmul hp hres
        cases hq : powM m (k + 1) with
        | some t2 =>
          rw [hq] at HP
          have HQ := Lib.hid hq
          clear hq
          go_wp2_with fail
          with_reducible refine HP.out.1.mono ?_
          rintro e w1 ⟨u1, rfl, hres, hy⟩
          have HR := Lib.hid hres
          clear hres
          go_wp2
          go_roundw
          case rel => exact ⟨k + 1, t2, by omega, by go_num, HQ.out, HR.out, hx.trans hy⟩
          case measure => simp [intOf]; omega
        | none =>
          rw [hq] at HP
          have HL := Lib.hid (powM_late hq (show k + 1 ≤ N by omega))
          clear hq
          go_wp2_with fail
          with_reducible refine HP.out.1.mono ?_
          rintro e w1 ⟨u1, rfl, hres, hy⟩
          clear hres
          go_wp2
          go_ret2
          exact ⟨_, by rw [HL.out]; rfl, by rw [HL.out]; exact spec_nil_rows _, Ext.trans (Ext.trans hx hy) (Ext.alloc _ _)⟩
      · have hkn : k = N := by omega
        subst hkn
        have HR := Lib.hid (And.intro hp hres)
        clear hp hres
        go_wp2
        go_ret2
        exact ⟨_, by rw [HR.out.1]; rfl, by rw [HR.out.1]; exact HR.out.2, hx⟩

end Go.Proofs.YtdngkfedkgiioaaDoor
