/- Contract: a shift without words, by the reference. -/
import Derived.Test.YtgbbidlbdjbilaaShI
namespace Go.Proofs.Ytgbbidlbdjbilaa
open Go.RowKit Go.Cm

set_option maxHeartbeats 1000000 in
theorem spec_IsEmptyShift_any (K : Nat) (v : Value) (F : List (List UInt8)) (w : World) (h : ReadsW w v F) (hf : ShFit K F) :
    Calls Try.prog 61 #[.agg #[.int .i64 K, v]] w fun e w' => e = .returned (.bool (decide ((statesL K F).length = 0))) ∧ Ext w w' := by
  obtain ⟨pa, ca, rfl⟩ := h.slice
  have hx := Ext.alloc w (.cells #[.int .i64 K, .slice pa F.length ca] 27)
  have bo : Blk (w.alloc (.cells #[.int .i64 K, .slice pa F.length ca] 27)) w.heap.size #[.int .i64 K, .slice pa F.length ca] := by (repeat (first | (refine Blk.mk' ?_; (simp; done)) | apply Blk.old))
  have hF : ∀ f ∈ F, f.length ≤ maxLen := fun f hm => by have := (hf.word f hm).2.2; unfold maxLen; omega
  have hF2 : ∀ f ∈ F, f.length ≤ 1048576 := fun f hm => by have := (hf.word f hm).2.2; omega
  have hs := spec_IsShift_any K (.slice pa F.length ca) F _ (h.ext hx) hF
  rw [hf.ok] at hs
  have hK0 : 0 < K := hf.k1
  have hK3 := hf.k3
  obtain ⟨st, hst⟩ : ∃ st, st = statesL K F := ⟨_, rfl⟩
  have hp := fun w h => spec_l3Pairs_any K (.slice pa F.length ca) F w hK0 hK3 h hF2
  rw [← hst] at hp ⊢
  have HC := Lib.hid (And.intro hs (And.intro hp h))
  clear hs hp h hst hF hF2 hf
  have c0 := bo.cell 0 _ rfl
  have c1 := bo.cell 1 _ rfl
  go_enter Try.func61, Try.ntmps61
  go_wp2_with fail
  with_reducible refine HC.out.1.mono ?_
  rintro e w1 ⟨rfl, hy⟩
  replace hx := hx.trans hy
  replace bo := bo.ext hy
  clear hy c0 c1
  have c0 := bo.cell 0 _ rfl
  have c1 := bo.cell 1 _ rfl
  go_wp2_with fail
  with_reducible refine (HC.out.2.1 _ (HC.out.2.2.ext hx)).mono ?_
  rintro e w2 ⟨z, rfl, hz, hy⟩
  obtain ⟨pz, cz, rfl⟩ := (Own.readsW hz).slice
  replace hx := hx.trans hy
  clear hy hz c0 c1 bo
  have hb : ((st.length : Int) == 0) = decide (st.length = 0) := by
    by_cases h : st.length = 0
    · rw [h]; rfl
    · rw [decide_eq_false h]; simp; exact fun e => h (by rw [e]; rfl)
  obtain ⟨b, hbd⟩ : ∃ b, b = decide (st.length = 0) := ⟨_, rfl⟩
  rw [← hbd] at hb
  have HV := Lib.hid hbd
  clear hbd
  cases b
  · go_wp2
    go_ret
    exact ⟨ret_boolB HV.out, hx⟩
  · go_wp2
    go_ret
    exact ⟨ret_boolB HV.out, hx⟩
end Go.Proofs.Ytgbbidlbdjbilaa
