/- Contracts of the laws' own helpers on shifts: sizes, copies, comparisons, marks. -/
import Derived.Test.YtgbbidlbdjbilaaDoorLawS
namespace Go.Proofs.YtgbbidlbdjbilaaDoor
open Go.RowKit Go.Cm

set_option maxHeartbeats 1000000 in
theorem szShift_any (L : Int) (v : Value) (F : List (List UInt8)) (l : Int) (w : World) (h0 : 0 ≤ l) (h1 : l ≤ 1048576) (h : ReadsW w v F) (hF : ∀ f ∈ F, f.length ≤ maxLen) :
    Calls Tryd.prog 4 #[.agg #[.int .i64 L, v], .int .i64 l] w fun e w' => e = .returned (.int .i64 (leftW l F)) ∧ Ext w w' := by
  obtain ⟨pa, ca, rfl⟩ := h.slice
  have hx := Ext.alloc w (.cells #[.int .i64 L, .slice pa F.length ca] 24)
  have HS := Lib.hid (And.intro (h.ext hx) hF)
  obtain ⟨s, hs⟩ : ∃ s, s = leftW l F := ⟨_, rfl⟩
  have hcall := fun w h => szStringS_any (.slice pa F.length ca) F l w h0 h1 h hF
  rw [← hs] at hcall ⊢
  have HC := Lib.hid hcall
  have hneg : s < 0 → s = -1 := by
    intro hl
    rw [hs] at hl ⊢
    unfold leftW at hl ⊢
    by_cases hc : l - (F.length : Int) - (sizeW F : Int) < 0
    · rw [if_pos hc]
    · rw [if_neg hc] at hl; omega
  clear h hF hcall hs
  by_cases hl : s < 0
  · have he := hneg hl
    subst he
    go_enter Tryd.func4, Tryd.ntmps4
    go_wp2_with fail
    with_reducible refine (HC.out _ HS.out.1).mono ?_
    rintro e w1 ⟨rfl, rfl⟩
    go_wp2
    go_ret
    exact ⟨rfl, hx⟩
  · clear hneg
    go_enter Tryd.func4, Tryd.ntmps4
    go_wp2_with fail
    with_reducible refine (HC.out _ HS.out.1).mono ?_
    rintro e w1 ⟨rfl, rfl⟩
    go_wp2
    go_ret
    exact ⟨rfl, hx⟩

/-- a shift of these letters and words, in a row of the call's own -/
def ShJ (L : Int) (F : List (List UInt8)) (v : Value) (w : World) : Prop := ∃ a n c, v = .agg #[.int .i64 L, .slice a n c] ∧ ReadsW w (.slice a n c) F
theorem ShJ.ok (L : Int) (F : List (List UInt8)) : ∀ v w w', Ext w w' → ShJ L F v w → ShJ L F v w' := fun _ _ _ hx ⟨a, n, c, h1, h2⟩ => ⟨a, n, c, h1, h2.ext hx⟩

set_option maxHeartbeats 1000000 in
theorem toShift_any (L : Int) (v : Value) (F : List (List UInt8)) (w : World) (h : ReadsW w v F) (hs : F.length ≤ 1048576) :
    Calls Tryd.prog 6 #[.agg #[.int .i64 L, v]] w fun e w' => ∃ g, e = .returned (.agg #[.int .i64 L, .slice (some ⟨g, 0, none⟩) F.length F.length]) ∧ Own w' w.heap.size 9 (.slice (some ⟨g, 0, none⟩) F.length F.length) (scells F) ∧ Ext w w' := by
  obtain ⟨a, c, rfl⟩ := h.slice
  have hx := ((Ext.alloc w (.cells #[.int .i64 L, .slice a F.length c] 24)).trans (Ext.alloc _ (.cells #[.int .i64 0, .slice none 0 0] 27))).trans (Ext.alloc _ (.cells #[.int .i64 L, .slice none 0 0] 27))
  have b1 : Blk (((w.alloc (.cells #[.int .i64 L, .slice a F.length c] 24)).alloc (.cells #[.int .i64 0, .slice none 0 0] 27)).alloc (.cells #[.int .i64 L, .slice none 0 0] 27)) (w.heap.size + 1) #[.int .i64 0, .slice none 0 0] := by (repeat (first | (refine Blk.mk' ?_; (simp; done)) | apply Blk.old))
  have b2 : Blk (((w.alloc (.cells #[.int .i64 L, .slice a F.length c] 24)).alloc (.cells #[.int .i64 0, .slice none 0 0] 27)).alloc (.cells #[.int .i64 L, .slice none 0 0] 27)) (w.heap.size + 1 + 1) #[.int .i64 L, .slice none 0 0] := by (repeat (first | (refine Blk.mk' ?_; (simp; done)) | apply Blk.old))
  have HT := Lib.hid (toStringS_any (.slice a F.length c) F _ (h.ext hx) hs)
  clear h
  go_enter Tryd.func6, Tryd.ntmps6
  go_wp2_with fail
  with_reducible refine HT.out.mono ?_
  rintro e w1 ⟨rfl, hown, hx1⟩
  replace b1 := b1.ext hx1
  replace b2 := b2.ext hx1
  have p0 := b1.cell 0 (.int .i64 0) rfl
  have p1 := b1.cell 1 (.slice none 0 0) rfl
  have q0 := b2.cell 0 (.int .i64 L) rfl
  have q1 := b2.cell 1 (.slice none 0 0) rfl
  have fp0 := b1.frozen 0
  have fp1 := b1.frozen 1
  have fq1 := b2.frozen 1
  obtain ⟨g, hg⟩ : ∃ g, g = (((w.alloc (.cells #[.int .i64 L, .slice a F.length c] 24)).alloc (.cells #[.int .i64 0, .slice none 0 0] 27)).alloc (.cells #[.int .i64 L, .slice none 0 0] 27)).heap.size := ⟨_, rfl⟩
  rw [← hg] at hown ⊢
  have hg3 : g = w.heap.size + 3 := by rw [hg]; simp
  have HO := Lib.hid (And.intro hown (And.intro (hx.trans hx1) hg3))
  clear hown hx1 hg hg3 hx HT b1 b2
  go_wp2
  have h1 := GB.own (GB.setCell (GB.refl w1 (some (w.heap.size + 1 + 1))) 1 (.slice (some ⟨g, 0, none⟩) F.length F.length)) HO.out.1 (by simp [Value.ownBlock]; have := HO.out.2.2; omega)
  have h2 := GB.own (GB.setCell (GB.refl _ (some (w.heap.size + 1))) 0 (.int .i64 L)) h1 (by simp [Value.ownBlock]; have := HO.out.2.2; omega)
  have h3 := GB.own (GB.setCell (GB.refl _ (some (w.heap.size + 1))) 1 (.slice (some ⟨g, 0, none⟩) F.length F.length)) h2 (by simp [Value.ownBlock]; have := HO.out.2.2; omega)
  have hle : w.heap.size ≤ w.heap.size + 1 := Nat.le_succ _
  have hx4 := ((Ext.setCell HO.out.2.1 (p := ⟨w.heap.size + 1 + 1, 1, none⟩) (Nat.le_trans hle (Nat.le_succ _)) (.slice (some ⟨g, 0, none⟩) F.length F.length)).setCell (p := ⟨w.heap.size + 1, 0, none⟩) hle (.int .i64 L)).setCell (p := ⟨w.heap.size + 1, 1, none⟩) hle (.slice (some ⟨g, 0, none⟩) F.length F.length)
  refine bodyPost_ret (v := .agg #[.int .i64 L, .slice (some ⟨g, 0, none⟩) F.length F.length]) ?_ rfl ⟨_, rfl, h3.mono (by have := HO.out.2.2; omega), hx4⟩
  clear hx4 h1 h2 h3
  simp [results, Tryd.results6, go_sem, p0, p1]

theorem toShJ_any (L : Int) (v : Value) (F : List (List UInt8)) (w : World) (h : ReadsW w v F) (hs : F.length ≤ 1048576) :
    Calls Tryd.prog 6 #[.agg #[.int .i64 L, v]] w fun e w' => ∃ z, e = .returned z ∧ Ext w w' ∧ ShJ L F z w' :=
  (toShift_any L v F w h hs).mono fun _ _ ⟨_, h1, h2, h3⟩ => ⟨_, h1, h3, _, _, _, rfl, Own.readsW h2⟩

set_option maxHeartbeats 1000000 in
theorem eqShift_same (L : Int) (v v' : Value) (F : List (List UInt8)) (w : World) (h : ReadsW w v F) (h' : ReadsW w v' F) :
    Calls Tryd.prog 9 #[.agg #[.int .i64 L, v], .agg #[.int .i64 L, v']] w fun e w' => e = .returned (.bool true) ∧ Ext w w' := by
  obtain ⟨a, c, rfl⟩ := h.slice
  obtain ⟨a', c', rfl⟩ := h'.slice
  have hx := (Ext.alloc w (.cells #[.int .i64 L, .slice a F.length c] 27)).trans (Ext.alloc _ (.cells #[.int .i64 L, .slice a' F.length c'] 27))
  have HS := Lib.hid (And.intro (h.ext hx) (h'.ext hx))
  clear h h'
  go_enter Tryd.func9, Tryd.ntmps9
  go_wp2_with fail
  with_reducible refine (eqStringS_same _ _ F _ HS.out.1 HS.out.2).mono ?_
  rintro e w1 ⟨rfl, hx1⟩
  go_wp2
  go_ret
  exact ⟨rfl, hx.trans hx1⟩

set_option maxHeartbeats 1000000 in
theorem markShift_any (B : Nat) (L : Int) (v : Value) (F : List (List UInt8)) (q : Int) (w : World) (h : Own w B 9 v (scells F)) (h0 : 1 ≤ q) (h1 : q + (F.length : Int) ≤ 4611686018427387904) :
    Calls Tryd.prog 10 #[.agg #[.int .i64 L, v], .int .i64 q] w fun e w' => e = .returned (.int .i64 (q + (F.length : Int))) ∧ w.grownBy w' v.ownBlock ∧ Own w' B 9 v (scells (marksW q F.length)) := by
  obtain ⟨a, c, rfl⟩ := (Own.readsW h).slice
  have hx := Ext.alloc w (.cells #[.int .i64 L, .slice a F.length c] 27)
  have HC := Lib.hid (markStringS_any B (.slice a F.length c) F q _ (h.ext hx) h0 h1)
  have HG := Lib.hid (GB.ext (GB.refl w (Value.slice a F.length c).ownBlock) hx)
  obtain ⟨t, ht⟩ : ∃ t, t = q + (F.length : Int) := ⟨_, rfl⟩
  rw [← ht] at HC ⊢
  clear h ht hx
  go_enter Tryd.func10, Tryd.ntmps10
  go_wp2_with fail
  with_reducible refine HC.out.mono ?_
  rintro e w1 ⟨rfl, hg, hown⟩
  have HO := Lib.hid (And.intro (GB.trans HG.out hg) hown)
  clear hg hown
  go_wp2
  go_ret
  exact ⟨rfl, HO.out.1, HO.out.2⟩
end Go.Proofs.YtgbbidlbdjbilaaDoor
