/- Contracts: a code's text read, by the program and by the reference. -/
import Derived.Test.YtgaeeibcfoppbaaGreatDoorPcC
namespace Go.Proofs.YtgaeeibcfoppbaaGreatDoor
open Go.RowKit Go.Cm

theorem MaxC.of6 {w : World} (h : w.ShapedOpen Tryz.prog) : MaxC w := Tryz.laysM146.s1_3 w h
/-- the library's Split at a blank -/
theorem split_any (s : List UInt8) (w : World) (hs : s.length ≤ 1048576) (hm : MaxC w) :
    Calls Tryz.prog 41 #[.string (mkS s), .string ⟨#[32]⟩] w fun e w' => ∃ z, e = .returned z ∧ Own w' w.heap.size 9 z (scells (splitL 32 s)) ∧ Ext w w' := by
  obtain ⟨m, hm⟩ := hm
  refine (Tryz.strings_Split (mkS s) ⟨#[32]⟩ m w (by rw [mkS_size]; omega) hm (by decide)).mono ?_
  rintro e w' ⟨rfl, rfl⟩
  have hl : (Lib.splitB ⟨#[32]⟩ 0 (Lib.countB (mkS s) ⟨#[32]⟩) (mkS s)) = (splitL 32 s).map mkS := by
    have h1 := Lib.splitB_data ⟨#[32]⟩ 0 (Lib.countB (mkS s) ⟨#[32]⟩) (mkS s)
    have h2 := split_splitK 32 s.length s (Nat.le_refl _)
    rw [mkS_data] at h1
    have h3 : Lib.countB (mkS s) ⟨#[32]⟩ = Lib.count s [32] := by unfold Lib.countB; rw [mkS_data]
    rw [h3] at h1 ⊢
    have h4 : (⟨#[32]⟩ : ByteArray).data.toList = [32] := rfl
    rw [h4, h2] at h1
    rw [← h1, List.map_map]
    have h5 : (mkS ∘ fun x : ByteArray => x.data.toList) = id := by
      funext x
      exact mkS_data_self x
    rw [h5, List.map_id]
  have hc : Lib.countB (mkS s) ⟨#[32]⟩ + 1 = (splitL 32 s).length := by
    have h1 := Lib.splitB_all ⟨#[32]⟩ (by decide) 0 (Lib.countB (mkS s) ⟨#[32]⟩) (mkS s) rfl
    rw [hl, List.length_map] at h1
    exact h1.symm
  rw [hl, hc]
  have hs2 := splitL_len 32 s
  refine ⟨_, rfl, ?_, Ext.alloc _ _⟩
  have := Own.lit w 9 (scells (splitL 32 s)) (by rw [scells_length]; unfold maxLen; omega)
  rw [scells_length] at this
  rw [show ((splitL 32 s).map mkS).map Value.string = scells (splitL 32 s) by simp [scells]]
  exact this

set_option maxRecDepth 100000 in
set_option maxHeartbeats 2000000 in
theorem impl_ParseCode_any (s : List UInt8) (w : World) (hs : s.length ≤ 1048576) (hm : MaxC w) (ht : TabC w) (he : ErrC w):
    Calls Tryz.prog 15 #[.string (mkS s)] w fun e w' => CodeOut s w e w' := by
  have hx0 := Ext.alloc w (.cells #[.int .i64 0, .int .i64 0, .string ⟨#[]⟩] 25)
  have br : Blk (w.alloc (.cells #[.int .i64 0, .int .i64 0, .string ⟨#[]⟩] 25)) w.heap.size #[.int .i64 0, .int .i64 0, .string ⟨#[]⟩] := by (repeat (first | (refine Blk.mk' ?_; (simp; done)) | apply Blk.old))
  have HS := Lib.hid (split_any s (w.alloc (.cells #[.int .i64 0, .int .i64 0, .string ⟨#[]⟩] 25)) hs (hm.ext hx0))
  have hmem := splitL_mem 32 s
  have hcnt := splitL_len 32 s
  obtain ⟨A, hA⟩ : ∃ A, A = splitL 32 s := ⟨_, rfl⟩
  rw [← hA] at HS hmem hcnt
  have HT := Lib.hid (And.intro ht he); clear hm ht he
  by_cases h3 : A.length ≠ 3
  · have HN := Lib.hid (parseC_few (s := s) (by rw [← hA]; exact h3))
    have hne : ((A.length : Int) != 3) = true := by simp; omega
    have hne2 : ((A.length : Int) == 3) = false := by simp; omega
    clear hA h3 hmem hcnt
    go_enter Tryz.func15, Tryz.ntmps15
    go_wp2_with fail
    with_reducible refine HS.out.mono ?_
    rintro e w1 ⟨z, rfl, hz, hy⟩
    obtain ⟨pz, cz, rfl⟩ := (Own.readsW hz).slice
    have hx := hx0.trans hy
    replace br := br.ext hy
    clear hz hy hx0
    obtain ⟨r0, r1, r2, f0, f1, f2⟩ := br.c3
    clear br
    go_wp2
    refine bodyPost_ret (v := .tuple #[.agg #[.int .i64 0, .int .i64 0, .string ⟨#[]⟩], .bool false]) ?_ rfl (.inr ⟨HN.out, rfl, ((hx.setCell (by simp) _).setCell (by simp) _).setCell (by simp) _⟩)
    simp [results, Tryz.results15, go_sem, r0, r1, r2]
  have h3' : A.length = 3 := by omega
  clear h3 hcnt
  obtain ⟨p, q, o, rfl⟩ : ∃ p q o, A = [p, q, o] := by
    match A, h3' with
    | [p, q, o], _ => exact ⟨p, q, o, rfl⟩
  have hp := hmem p (by simp)
  have hq := hmem q (by simp)
  have ho := hmem o (by simp)
  have hos : (mkS o).size ≤ 1048576 := by rw [mkS_size]; omega
  have hcp := fun w (h : TabC w ∧ ErrC w) => impl_ParseNumber_any p w (by omega) h.1 h.2
  have hcq := fun w (h : TabC w ∧ ErrC w) => impl_ParseNumber_any q w (by omega) h.1 h.2
  have HP := Lib.hid (And.intro hcp (And.intro hcq hA))
  obtain ⟨oo, hoo⟩ : ∃ oo, oo = mkS o := ⟨_, rfl⟩
  rw [← hoo] at hos
  have HOO := Lib.hid hoo
  clear hcp hcq hA hmem hp hq ho h3' hoo
  go_enter Tryz.func15, Tryz.ntmps15
  go_wp2_with fail
  with_reducible refine HS.out.mono ?_
  rintro e w1 ⟨z, rfl, hz, hy⟩
  obtain ⟨pz, cz, rfl⟩ := (Own.readsW hz).slice
  obtain ⟨gb, go, rfl, hc0⟩ := (Own.readsW hz).at 0 (by simp)
  obtain ⟨_, _, e1, hc1⟩ := (Own.readsW hz).at 1 (by simp)
  cases e1
  obtain ⟨_, _, e2, hc2⟩ := (Own.readsW hz).at 2 (by simp)
  cases e2
  simp only [List.getD_cons_zero, List.getD_cons_succ, Nat.add_zero] at hc0 hc1 hc2
  rw [← HOO.out] at hc2
  have hx := hx0.trans hy
  replace br := br.ext hy
  clear hz hy hx0
  have hl3 : ([p, q, o] : List (List UInt8)).length = 3 := rfl
  rw [hl3]
  clear hl3
  go_wp2_with fail
  with_reducible refine (HP.out.1 _ ⟨HT.out.1.ext hx, HT.out.2.ext hx⟩).mono ?_
  rintro e w2 ⟨z1, b1, rfl, hn1, hb1, hy⟩
  replace hx := hx.trans hy
  replace br := br.ext hy
  replace hc1 := hy.cell_some hc1
  replace hc2 := hy.cell_some hc2
  clear hy hc0
  go_wp2_with fail
  with_reducible refine (HP.out.2.1 _ ⟨HT.out.1.ext hx, HT.out.2.ext hx⟩).mono ?_
  rintro e w3 ⟨z2, b2, rfl, hn2, hb2, hy⟩
  replace hx := hx.trans hy
  replace br := br.ext hy
  replace hc2 := hy.cell_some hc2
  clear hy hc1
  have HB := Lib.hid (And.intro hn1 (And.intro hb1 (And.intro hn2 hb2)))
  clear hn1 hn2 hb1 hb2
  have hx9 := Ext.alloc w3 (.cells #[.int .i64 z1, .int .i64 z2, .string oo] 25)
  have bc : Blk (w3.alloc (.cells #[.int .i64 z1, .int .i64 z2, .string oo] 25)) w3.heap.size #[.int .i64 z1, .int .i64 z2, .string oo] := by (repeat (first | (refine Blk.mk' ?_; (simp; done)) | apply Blk.old))
  replace hx := hx.trans hx9
  replace br := br.ext hx9
  obtain ⟨b0, b1', b2', -, -, -⟩ := bc.c3
  clear hx9
  cases b1
  · have HN := Lib.hid (show parseC s = none from parseC_no HP.out.2.2.symm (fun k n hk hn e1 e2 => absurd (HB.out.1.2 k hk e1).1 (by simp)))
    clear bc b0 b1' b2'
    obtain ⟨r0, r1, r2, f0, f1, f2⟩ := br.c3
    clear br
    go_wp2
    refine bodyPost_ret (v := .tuple #[.agg #[.int .i64 0, .int .i64 0, .string ⟨#[]⟩], .bool false]) ?_ rfl (.inr ⟨HN.out, rfl, ((hx.setCell (by simp) _).setCell (by simp) _).setCell (by simp) _⟩)
    simp [results, Tryz.results15, go_sem, r0, r1, r2]
  cases b2
  · have HN := Lib.hid (show parseC s = none from parseC_no HP.out.2.2.symm (fun k n hk hn e1 e2 => absurd (HB.out.2.2.1.2 n hn e2).1 (by simp)))
    clear bc b0 b1' b2'
    obtain ⟨r0, r1, r2, f0, f1, f2⟩ := br.c3
    clear br
    go_wp2
    refine bodyPost_ret (v := .tuple #[.agg #[.int .i64 0, .int .i64 0, .string ⟨#[]⟩], .bool false]) ?_ rfl (.inr ⟨HN.out, rfl, ((hx.setCell (by simp) _).setCell (by simp) _).setCell (by simp) _⟩)
    simp [results, Tryz.results15, go_sem, r0, r1, r2]
  have HCc := Lib.hid (fun w => impl_IsCode_any z1 z2 oo w (by unfold maxLen; omega))
  cases hok : codeOk z1 z2 oo with
  | false =>
    rw [hok] at HCc
    have HN := Lib.hid (show parseC s = none from parseC_no HP.out.2.2.symm (fun k n hk hn e1 e2 => by rw [← HOO.out, ← (HB.out.1.2 k hk e1).2, ← (HB.out.2.2.1.2 n hn e2).2]; exact hok))
    clear hok
    go_wp2_with fail
    with_reducible refine (HCc.out _).mono ?_
    rintro e w4 ⟨rfl, hy⟩
    replace hx := hx.trans hy
    replace br := br.ext hy
    clear bc hc2 b0 b1' b2' hy
    obtain ⟨r0, r1, r2, f0, f1, f2⟩ := br.c3
    clear br
    go_wp2
    refine bodyPost_ret (v := .tuple #[.agg #[.int .i64 0, .int .i64 0, .string ⟨#[]⟩], .bool false]) ?_ rfl (.inr ⟨HN.out, rfl, ((hx.setCell (by simp) _).setCell (by simp) _).setCell (by simp) _⟩)
    simp [results, Tryz.results15, go_sem, r0, r1, r2]
  | true =>
    rw [hok] at HCc
    obtain ⟨k, n, rfl, rfl, hk, hn⟩ := codeOk_dig hok
    have HY := Lib.hid (show parseC s = some (k, n, oo) by
      have h1 := HB.out.1.1 rfl
      have h2 := HB.out.2.2.1.1 rfl
      rw [itoa_dig hk] at h1
      rw [itoa_dig hn] at h2
      rw [HOO.out]
      exact parseC_yes HP.out.2.2.symm hk hn h1 h2 (by rw [← HOO.out]; exact hok))
    clear hok
    go_wp2_with fail
    with_reducible refine (HCc.out _).mono ?_
    rintro e w4 ⟨rfl, hy⟩
    replace hx := hx.trans hy
    replace br := br.ext hy
    replace bc := bc.ext hy
    clear b0 b1' b2' hy hc2
    obtain ⟨b0, b1', b2', -, -, -⟩ := bc.c3
    obtain ⟨r0, r1, r2, f0, f1, f2⟩ := br.c3
    clear br bc
    go_wp2
    refine bodyPost_ret (v := .tuple #[.agg #[.int .i64 k, .int .i64 n, .string oo], .bool true]) ?_ rfl (.inl ⟨k, n, oo, HY.out, rfl, hos, ((hx.setCell (by simp) _).setCell (by simp) _).setCell (by simp) _⟩)
    simp [results, Tryz.results15, go_sem, r0, r1, r2]
end Go.Proofs.YtgaeeibcfoppbaaGreatDoor
