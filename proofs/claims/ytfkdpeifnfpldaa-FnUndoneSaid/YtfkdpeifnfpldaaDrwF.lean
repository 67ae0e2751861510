/- Contracts: the draws of codes to be undone, and of two codes. -/
import Derived.Test.YtfkdpeifnfpldaaDrwE
import Derived.Test.YtfkdpeifnfpldaaCopyB
import Derived.Test.YtfkdpeifnfpldaaCompB
namespace Go.Proofs.Ytfkdpeifnfpldaa
open Go.RowKit Go.Cm

/-- the blocks of a code's three cells, stored into another block -/
theorem Blk.put3 {w : World} {b : Nat} {u0 u1 u2 : Value} (h : Blk w b #[u0, u1, u2]) (x y t : Value) : Blk (((w.setCell ⟨b, 0, none⟩ x).setCell ⟨b, 1, none⟩ y).setCell ⟨b, 2, none⟩ t) b #[x, y, t] := by
  have := ((h.set (i := 0) (by simp) x).set (i := 1) (by simp) y).set (i := 2) (by simp) t
  simpa using this
theorem Blk.past3 {w : World} {b d : Nat} {c : Array Value} (h : Blk w d c) (hne : b ≠ d) (x y t : Value) : Blk (((w.setCell ⟨b, 0, none⟩ x).setCell ⟨b, 1, none⟩ y).setCell ⟨b, 2, none⟩ t) d c :=
  ((h.other hne x).other hne y).other hne t
theorem Drawn.put3 {B z : Nat} {a w : World} (h : Drawn B z a w) {b : Nat} (hb : a.heap.size ≤ b) (x y t : Value) : Drawn B z a (((w.setCell ⟨b, 0, none⟩ x).setCell ⟨b, 1, none⟩ y).setCell ⟨b, 2, none⟩ t) :=
  ((h.store (p := ⟨b, 0, none⟩) hb x).store (p := ⟨b, 1, none⟩) hb y).store (p := ⟨b, 2, none⟩) hb t

set_option maxRecDepth 100000 in
set_option maxHeartbeats 2000000 in
theorem spec_DrawIsPermutive_any (v : Value) (xs : List UInt8) (w : World) (h : ReadsB w v xs) :
    Calls Try.prog 30 #[v] w fun e w' => ∃ u b, e = .returned (.tuple #[u, .bool b]) ∧ CodeV 1048577 u ∧ Ext w w' := by
  have ho := (OldB.start h).ext (Ext.alloc w (.cells #[.int .i64 0, .int .i64 0, .string ⟨#[]⟩] 25))
  have br : Blk (w.alloc (.cells #[.int .i64 0, .int .i64 0, .string ⟨#[]⟩] 25)) w.heap.size #[.int .i64 0, .int .i64 0, .string ⟨#[]⟩] := by (repeat (first | (refine Blk.mk' ?_; (simp; done)) | apply Blk.old))
  have hx0 := Ext.alloc w (.cells #[.int .i64 0, .int .i64 0, .string ⟨#[]⟩] 25)
  clear h
  go_enter Try.func30, Try.ntmps30
  go_wp2_with fail
  with_reducible refine ho.new.mono ?_
  rintro e w1 ⟨z, rfl, hz, c, hx⟩
  replace br := br.ext hx
  replace hx := hx0.trans hx
  have hzr : w.heap.size < z := by simp at hz; omega
  clear ho hx0 hz
  go_wp2_with fail
  with_reducible refine (spec_l11Bent_any _ z _ c).mono ?_
  rintro e w2 ⟨u, rfl, ⟨L, W, o, rfl, hos⟩, hd⟩
  go_wp2_with fail
  with_reducible refine (spec_l1Once_any _ z _ _ hd.cur).mono ?_
  rintro e w4 ⟨b, rfl, hd3⟩
  replace hd := hd.trans hd3
  clear hd3
  replace br := hd.blk br (by omega)
  replace hx := hd.toExt hx (by omega)
  obtain ⟨r0, r1, r2, f0, f1, f2⟩ := br.c3
  go_wp2
  refine bodyPost_ret (v := .tuple #[.agg #[.int .i64 L, .int .i64 W, .string o], .bool b]) ?_ rfl ⟨_, _, rfl, ⟨L, W, o, rfl, hos⟩, ((hx.setCell (Nat.le_refl _) _).setCell (Nat.le_refl _) _).setCell (Nat.le_refl _) _⟩
  simp [results, Try.results30, go_sem, r0, r1, r2]

set_option maxRecDepth 100000 in
set_option maxHeartbeats 4000000 in
theorem spec_l13Case_any (v : Value) (xs : List UInt8) (w : World) (h : ReadsB w v xs) :
    Calls Try.prog 64 #[v] w fun e w' => ∃ u n, e = .returned (.tuple #[u, .int .i64 n]) ∧ CodeV 1048577 u ∧ Ext w w' := by
  have ho := (OldB.start h).ext (Ext.alloc w (.cells #[.int .i64 0, .int .i64 0, .string ⟨#[]⟩] 25))
  have br : Blk (w.alloc (.cells #[.int .i64 0, .int .i64 0, .string ⟨#[]⟩] 25)) w.heap.size #[.int .i64 0, .int .i64 0, .string ⟨#[]⟩] := by (repeat (first | (refine Blk.mk' ?_; (simp; done)) | apply Blk.old))
  have hx0 := Ext.alloc w (.cells #[.int .i64 0, .int .i64 0, .string ⟨#[]⟩] 25)
  clear h
  go_enter Try.func64, Try.ntmps64
  go_wp2_with fail
  with_reducible refine ho.new.mono ?_
  rintro e w1 ⟨z, rfl, hz, c, hx⟩
  replace br := br.ext hx
  replace hx := hx0.trans hx
  have hzr : w.heap.size < z := by simp at hz; omega
  clear ho hx0 hz
  go_wp2_with fail
  with_reducible refine (spec_l11Bent_any _ z _ c).mono ?_
  rintro e w2 ⟨u, rfl, ⟨L, W, o, rfl, hos⟩, hd⟩
  have hrX := br.lt
  have hwX := hd.grown.size
  have bx : Blk (w2.alloc (.cells #[.int .i64 L, .int .i64 W, .string o] 25)) w2.heap.size #[.int .i64 L, .int .i64 W, .string o] := by (repeat (first | (refine Blk.mk' ?_; (simp; done)) | apply Blk.old))
  replace br := (hd.blk br (by omega)).old (o := .cells #[.int .i64 L, .int .i64 W, .string o] 25)
  have hzX := hd.cur.lt
  replace hd := hd.alloc (.cells #[.int .i64 L, .int .i64 W, .string o] 25)
  obtain ⟨X, hX⟩ : ∃ X, X = w2.heap.size := ⟨_, rfl⟩
  obtain ⟨r, hr⟩ : ∃ r, r = w.heap.size := ⟨_, rfl⟩
  have hXz : z < X := by omega
  have hXw : w1.heap.size ≤ X := by omega
  have hzr' : r < z := by omega
  go_wp2_with fail
  with_reducible refine (spec_l1Once_any _ z _ _ hd.cur).mono ?_
  rintro e w3 ⟨b, rfl, hd2⟩
  replace br := hd2.blk br (by omega)
  replace bx := hd2.blk bx (by omega)
  replace hd := hd.trans hd2
  clear hd2
  rw [← hX] at bx
  rw [← hr] at br hd
  rw [← hX, ← hr]
  have HX := Lib.hid (And.intro hX hr)
  clear hX hr hrX hwX hzr hzX
  cases b
  · skip
    obtain ⟨b0, b1, b2, -, -, -⟩ := bx.c3
    go_wp2
    refine wp_region_tailR (R := (drawRel r z)) (by kernel_rfl) 3 (.known ?hx5_2_v0 :: .known ?hx5_2_v1 :: .such (IntJ 6) (fun _ _ _ _ h => h) :: []) rfl (by decide) (by kernel_rfl) (by kernel_rfl) ?hx5_2_s ?hx5_2_p
    case hx5_2_s =>
      intro vs
      refine ⟨fun w' hxw hj => ?_, fun w' hxw hj => ?_, fun w' hxw hj => ?_, trivial⟩
      · have hdw := hxw hd.cur
        have hcw := hdw.cur
        have b0 := Drawn.cell hdw b0 (by dsimp only; omega)
        have b1 := Drawn.cell hdw b1 (by dsimp only; omega)
        have b2 := Drawn.cell hdw b2 (by dsimp only; omega)
        clear hj hxw
        go_simp
        try go_bits
        refine ⟨Drawn.start hcw, ?_⟩
        rfl
      · have hdw := hxw hd.cur
        have hcw := hdw.cur
        have b0 := Drawn.cell hdw b0 (by dsimp only; omega)
        have b1 := Drawn.cell hdw b1 (by dsimp only; omega)
        have b2 := Drawn.cell hdw b2 (by dsimp only; omega)
        clear hj hxw
        go_simp
        try go_bits
        refine ⟨Drawn.start hcw, ?_⟩
        rfl
      · have hdw := hxw hd.cur
        have hcw := hdw.cur
        have b0 := Drawn.cell hdw b0 (by dsimp only; omega)
        have b1 := Drawn.cell hdw b1 (by dsimp only; omega)
        have b2 := Drawn.cell hdw b2 (by dsimp only; omega)
        clear hj hxw
        go_simp
        try go_bits
        exact ⟨Drawn.start hcw, (spec_l1Below_any _ z _ _ hcw).mono (by rintro e w'' ⟨y, rfl, hy, -, hd'⟩; exact ⟨_, rfl, hd', y, rfl⟩)⟩
    case' hx5_2_p =>
      intro vs w9 hx5 hk
      replace hx5 := hx5 hd.cur
      have k2 : (IntJ 6) (vs 2) w9 := hk 2 _ rfl
      clear hk
      replace b0 := Drawn.cell hx5 b0 (by dsimp only; omega)
      replace b1 := Drawn.cell hx5 b1 (by dsimp only; omega)
      replace b2 := Drawn.cell hx5 b2 (by dsimp only; omega)
      go_simp
    obtain ⟨y, hy⟩ := k2
    rw [hy]
    replace br := hx5.blk br (by omega)
    replace hd := hd.trans hx5
    replace hx := hd.toExt hx (by have := HX.out.2; omega)
    obtain ⟨r0, r1, r2, f0, f1, f2⟩ := br.c3
    go_wp2
    refine bodyPost_ret (v := .tuple #[.agg #[.int .i64 L, .int .i64 W, .string o], .int .i64 y]) ?_ rfl ⟨_, _, rfl, ⟨L, W, o, rfl, by omega⟩, ((hx.setCell (Nat.le_of_eq HX.out.2.symm) _).setCell (Nat.le_of_eq HX.out.2.symm) _).setCell (Nat.le_of_eq HX.out.2.symm) _⟩
    simp [results, Try.results64, go_sem, r0, r1, r2]
  · go_wp2_with fail
    with_reducible refine (pick_ok hd.cur (by kernel_rfl) (by omega) (by omega)).mono ?_
    rintro e w4 ⟨x, rfl, hx', hd2⟩
    replace br := hd2.blk br (by omega)
    replace bx := hd2.blk bx (by omega)
    replace hd := hd.trans hd2
    clear hd2
    go_wp2_with fail
    with_reducible refine (parse_bytes x _ (by omega)).mono ?_
    rintro e w5 ⟨L', W', o', b, rfl, ho', hx3⟩
    replace br := br.ext hx3
    replace bx := bx.ext hx3
    replace hd := hd.ext hx3
    clear hx3
    have hXY := bx.lt
    have bx' := (Blk.put3 bx (.int .i64 L') (.int .i64 W') (.string o')).old (o := .cells #[.int .i64 L', .int .i64 W', .string o'] 25)
    have br' := (Blk.past3 (b := X) br (by omega) (.int .i64 L') (.int .i64 W') (.string o')).old (o := .cells #[.int .i64 L', .int .i64 W', .string o'] 25)
    have hd' := (Drawn.put3 hd hXw (.int .i64 L') (.int .i64 W') (.string o')).alloc (.cells #[.int .i64 L', .int .i64 W', .string o'] 25)
    obtain ⟨b0, b1, b2, g0, g1, g2⟩ := bx.c3
    clear bx br hd
    go_wp2
    have bx := bx'
    have br := br'
    have hd := hd'
    clear bx' br' hd' b0 b1 b2 g0 g1 g2
    generalize (((w5.setCell ⟨X, 0, none⟩ (.int .i64 L')).setCell ⟨X, 1, none⟩ (.int .i64 W')).setCell ⟨X, 2, none⟩ (.string o')).alloc (.cells #[.int .i64 L', .int .i64 W', .string o'] 25) = w6 at bx br hd ⊢
    obtain ⟨b0, b1, b2, -, -, -⟩ := bx.c3
    go_wp2
    refine wp_region_tailR (R := (drawRel r z)) (by kernel_rfl) 3 (.known ?hx5_3_v0 :: .known ?hx5_3_v1 :: .such (IntJ 6) (fun _ _ _ _ h => h) :: []) rfl (by decide) (by kernel_rfl) (by kernel_rfl) ?hx5_3_s ?hx5_3_p
    case hx5_3_s =>
      intro vs
      refine ⟨fun w' hxw hj => ?_, fun w' hxw hj => ?_, fun w' hxw hj => ?_, trivial⟩
      · have hdw := hxw hd.cur
        have hcw := hdw.cur
        have b0 := Drawn.cell hdw b0 (by dsimp only; omega)
        have b1 := Drawn.cell hdw b1 (by dsimp only; omega)
        have b2 := Drawn.cell hdw b2 (by dsimp only; omega)
        clear hj hxw
        go_simp
        try go_bits
        refine ⟨Drawn.start hcw, ?_⟩
        rfl
      · have hdw := hxw hd.cur
        have hcw := hdw.cur
        have b0 := Drawn.cell hdw b0 (by dsimp only; omega)
        have b1 := Drawn.cell hdw b1 (by dsimp only; omega)
        have b2 := Drawn.cell hdw b2 (by dsimp only; omega)
        clear hj hxw
        go_simp
        try go_bits
        refine ⟨Drawn.start hcw, ?_⟩
        rfl
      · have hdw := hxw hd.cur
        have hcw := hdw.cur
        have b0 := Drawn.cell hdw b0 (by dsimp only; omega)
        have b1 := Drawn.cell hdw b1 (by dsimp only; omega)
        have b2 := Drawn.cell hdw b2 (by dsimp only; omega)
        clear hj hxw
        go_simp
        try go_bits
        exact ⟨Drawn.start hcw, (spec_l1Below_any _ z _ _ hcw).mono (by rintro e w'' ⟨y, rfl, hy, -, hd'⟩; exact ⟨_, rfl, hd', y, rfl⟩)⟩
    case' hx5_3_p =>
      intro vs w9 hx5 hk
      replace hx5 := hx5 hd.cur
      have k2 : (IntJ 6) (vs 2) w9 := hk 2 _ rfl
      clear hk
      replace b0 := Drawn.cell hx5 b0 (by dsimp only; omega)
      replace b1 := Drawn.cell hx5 b1 (by dsimp only; omega)
      replace b2 := Drawn.cell hx5 b2 (by dsimp only; omega)
      go_simp
    obtain ⟨y, hy⟩ := k2
    rw [hy]
    replace br := hx5.blk br (by omega)
    replace hd := hd.trans hx5
    replace hx := hd.toExt hx (by have := HX.out.2; omega)
    obtain ⟨r0, r1, r2, f0, f1, f2⟩ := br.c3
    go_wp2
    refine bodyPost_ret (v := .tuple #[.agg #[.int .i64 L', .int .i64 W', .string o'], .int .i64 y]) ?_ rfl ⟨_, _, rfl, ⟨L', W', o', rfl, by omega⟩, ((hx.setCell (Nat.le_of_eq HX.out.2.symm) _).setCell (Nat.le_of_eq HX.out.2.symm) _).setCell (Nat.le_of_eq HX.out.2.symm) _⟩
    simp [results, Try.results64, go_sem, r0, r1, r2]

theorem copy_some (L : Int) (w : World) : Calls Try.prog 69 #[.int .i64 L, .int .i64 1, .int .i64 0] w fun e w' => ∃ (L' W' : Int) (o' : ByteArray) (b : Bool), e = .returned (.tuple #[.agg #[.int .i64 L', .int .i64 W', .string o'], .bool b]) ∧ o'.size ≤ 1048577 ∧ Ext w w' := by
  cases h : copyOk L 1 0 with
  | false => exact (spec_CopyCode_no L 1 0 w h).mono (by rintro e w' ⟨rfl, hx⟩; exact ⟨_, _, _, _, rfl, by show 0 ≤ 1048577; omega, hx⟩)
  | true =>
    have hh : wideOk L 1 = true := by simpa [copyOk] using h
    have hw := wideOk_yes hh
    obtain ⟨K, rfl⟩ := Int.eq_ofNat_of_zero_le (show 0 ≤ L by omega)
    refine (spec_CopyCode_yes K 1 0 w h).mono ?_
    rintro e w' ⟨rfl, hx⟩
    refine ⟨_, _, _, _, rfl, ?_, hx⟩
    rw [mkS_size, List.length_map, wordsL_length]
    simp
    omega

set_option maxRecDepth 100000 in
set_option maxHeartbeats 2000000 in
theorem spec_DrawUndoingCode_any (v : Value) (xs : List UInt8) (w : World) (h : ReadsB w v xs) :
    Calls Try.prog 25 #[v] w fun e w' => (∃ u n, e = .returned (.tuple #[u, .int .i64 n]) ∧ CodeV 1048577 u) ∧ Ext w w' := by
  have hx0 := Ext.alloc w (.cells #[.int .i64 0, .int .i64 0, .string ⟨#[]⟩] 25)
  have br : Blk (w.alloc (.cells #[.int .i64 0, .int .i64 0, .string ⟨#[]⟩] 25)) w.heap.size #[.int .i64 0, .int .i64 0, .string ⟨#[]⟩] := by (repeat (first | (refine Blk.mk' ?_; (simp; done)) | apply Blk.old))
  have h0 : ReadsB (w.alloc (.cells #[.int .i64 0, .int .i64 0, .string ⟨#[]⟩] 25)) v xs := h.ext hx0
  clear h
  go_enter Try.func25, Try.ntmps25
  go_wp2_with fail
  with_reducible refine (spec_l13Case_any v xs _ h0).mono ?_
  rintro e w1 ⟨u, n, rfl, ⟨L, W, o, rfl, hos⟩, hx⟩
  replace br := br.ext hx
  replace hx := hx0.trans hx
  have bx : Blk (w1.alloc (.cells #[.int .i64 L, .int .i64 W, .string o] 25)) w1.heap.size #[.int .i64 L, .int .i64 W, .string o] := by (repeat (first | (refine Blk.mk' ?_; (simp; done)) | apply Blk.old))
  replace br := br.old (o := .cells #[.int .i64 L, .int .i64 W, .string o] 25)
  replace hx := hx.trans (Ext.alloc w1 (.cells #[.int .i64 L, .int .i64 W, .string o] 25))
  obtain ⟨r0, r1, r2, f0, f1, f2⟩ := br.c3
  obtain ⟨b0, b1, b2, -, -, -⟩ := bx.c3
  clear h0 hx0
  go_wp2
  refine bodyPost_ret (v := .tuple #[.agg #[.int .i64 L, .int .i64 W, .string o], .int .i64 n]) ?_ rfl ⟨⟨_, _, rfl, ⟨L, W, o, rfl, hos⟩⟩, ((hx.setCell (Nat.le_refl _) _).setCell (Nat.le_refl _) _).setCell (Nat.le_refl _) _⟩
  simp [results, Try.results25, go_sem, r0, r1, r2]
set_option maxRecDepth 100000 in
set_option maxHeartbeats 2000000 in
theorem spec_DrawLeastUndoing_any (v : Value) (xs : List UInt8) (w : World) (h : ReadsB w v xs) :
    Calls Try.prog 28 #[v] w fun e w' => (∃ u, e = .returned u ∧ CodeV 1048577 u) ∧ Ext w w' := by
  have hx0 := Ext.alloc w (.cells #[.int .i64 0, .int .i64 0, .string ⟨#[]⟩] 25)
  have br : Blk (w.alloc (.cells #[.int .i64 0, .int .i64 0, .string ⟨#[]⟩] 25)) w.heap.size #[.int .i64 0, .int .i64 0, .string ⟨#[]⟩] := by (repeat (first | (refine Blk.mk' ?_; (simp; done)) | apply Blk.old))
  have h0 : ReadsB (w.alloc (.cells #[.int .i64 0, .int .i64 0, .string ⟨#[]⟩] 25)) v xs := h.ext hx0
  clear h
  go_enter Try.func28, Try.ntmps28
  go_wp2_with fail
  with_reducible refine (spec_l13Case_any v xs _ h0).mono ?_
  rintro e w1 ⟨u, n, rfl, ⟨L, W, o, rfl, hos⟩, hx⟩
  replace br := br.ext hx
  replace hx := hx0.trans hx
  have bx : Blk (w1.alloc (.cells #[.int .i64 L, .int .i64 W, .string o] 25)) w1.heap.size #[.int .i64 L, .int .i64 W, .string o] := by (repeat (first | (refine Blk.mk' ?_; (simp; done)) | apply Blk.old))
  replace br := br.old (o := .cells #[.int .i64 L, .int .i64 W, .string o] 25)
  replace hx := hx.trans (Ext.alloc w1 (.cells #[.int .i64 L, .int .i64 W, .string o] 25))
  obtain ⟨r0, r1, r2, f0, f1, f2⟩ := br.c3
  obtain ⟨b0, b1, b2, -, -, -⟩ := bx.c3
  clear h0 hx0
  go_wp2
  refine bodyPost_ret (v := .agg #[.int .i64 L, .int .i64 W, .string o]) ?_ rfl ⟨⟨_, rfl, ⟨L, W, o, rfl, hos⟩⟩, ((hx.setCell (Nat.le_refl _) _).setCell (Nat.le_refl _) _).setCell (Nat.le_refl _) _⟩
  simp [results, Try.results28, go_sem, r0, r1, r2]

set_option maxRecDepth 100000 in
set_option maxHeartbeats 4000000 in
theorem spec_l11Two_any (v : Value) (xs : List UInt8) (w : World) (h : ReadsB w v xs) :
    Calls Try.prog 68 #[v] w fun e w' => ∃ u u', e = .returned (.tuple #[u, u']) ∧ CodeV 1048577 u ∧ CodeV 1048577 u' ∧ Ext w w' := by
  have ho := ((OldB.start h).ext (Ext.alloc w (.cells #[.int .i64 0, .int .i64 0, .string ⟨#[]⟩] 25))).ext (Ext.alloc _ (.cells #[.int .i64 0, .int .i64 0, .string ⟨#[]⟩] 25))
  have br : Blk ((w.alloc (.cells #[.int .i64 0, .int .i64 0, .string ⟨#[]⟩] 25)).alloc (.cells #[.int .i64 0, .int .i64 0, .string ⟨#[]⟩] 25)) w.heap.size #[.int .i64 0, .int .i64 0, .string ⟨#[]⟩] := by (repeat (first | (refine Blk.mk' ?_; (simp; done)) | apply Blk.old))
  have bs : Blk ((w.alloc (.cells #[.int .i64 0, .int .i64 0, .string ⟨#[]⟩] 25)).alloc (.cells #[.int .i64 0, .int .i64 0, .string ⟨#[]⟩] 25)) (w.heap.size + 1) #[.int .i64 0, .int .i64 0, .string ⟨#[]⟩] := by (repeat (first | (refine Blk.mk' ?_; (simp; done)) | apply Blk.old))
  have hx0 := (Ext.alloc w (.cells #[.int .i64 0, .int .i64 0, .string ⟨#[]⟩] 25)).trans (Ext.alloc _ (.cells #[.int .i64 0, .int .i64 0, .string ⟨#[]⟩] 25))
  go_enter Try.func68, Try.ntmps68
  go_wp2_with fail
  with_reducible refine ho.new.mono ?_
  rintro e w1 ⟨z, rfl, hz, c, hx⟩
  replace br := br.ext hx
  replace bs := bs.ext hx
  replace hx := hx0.trans hx
  have hzr : w.heap.size + 1 < z := by simp at hz; omega
  clear ho hx0 hz
  clear h
  go_wp2_with fail
  with_reducible refine (spec_l11Bent_any _ z _ c).mono ?_
  rintro e w2 ⟨u, rfl, ⟨L, W, o, rfl, hos⟩, hd⟩
  have hwX := hd.grown.size
  have hsX := bs.lt
  have bx : Blk (w2.alloc (.cells #[.int .i64 L, .int .i64 W, .string o] 25)) w2.heap.size #[.int .i64 L, .int .i64 W, .string o] := by (repeat (first | (refine Blk.mk' ?_; (simp; done)) | apply Blk.old))
  replace br := (hd.blk br (by omega)).old (o := .cells #[.int .i64 L, .int .i64 W, .string o] 25)
  replace bs := (hd.blk bs (by omega)).old (o := .cells #[.int .i64 L, .int .i64 W, .string o] 25)
  have hzX := hd.cur.lt
  replace hd := hd.alloc (.cells #[.int .i64 L, .int .i64 W, .string o] 25)
  obtain ⟨X, hX⟩ : ∃ X, X = w2.heap.size := ⟨_, rfl⟩
  obtain ⟨r, hr⟩ : ∃ r, r = w.heap.size := ⟨_, rfl⟩
  have hXz : z < X := by omega
  have hXw : w1.heap.size ≤ X := by omega
  have hzr' : r + 1 < z := by omega
  go_wp2_with fail
  with_reducible refine (spec_l11Bent_any _ z _ hd.cur).mono ?_
  rintro e w3 ⟨u, rfl, ⟨L', W', o', rfl, hos'⟩, hd2⟩
  replace br := hd2.blk br (by omega)
  replace bs := hd2.blk bs (by omega)
  replace bx := hd2.blk bx (by omega)
  replace hd := hd.trans hd2
  clear hd2
  have hXY := bx.lt
  have by' : Blk (w3.alloc (.cells #[.int .i64 L', .int .i64 W', .string o'] 25)) w3.heap.size #[.int .i64 L', .int .i64 W', .string o'] := by (repeat (first | (refine Blk.mk' ?_; (simp; done)) | apply Blk.old))
  replace br := br.old (o := .cells #[.int .i64 L', .int .i64 W', .string o'] 25)
  replace bs := bs.old (o := .cells #[.int .i64 L', .int .i64 W', .string o'] 25)
  replace bx := bx.old (o := .cells #[.int .i64 L', .int .i64 W', .string o'] 25)
  replace hd := hd.alloc (.cells #[.int .i64 L', .int .i64 W', .string o'] 25)
  obtain ⟨Y, hY⟩ : ∃ Y, Y = w3.heap.size := ⟨_, rfl⟩
  rw [← hX] at bx hXY
  have hXY' : X < Y := by omega
  rw [← hY] at by'
  rw [← hr] at br bs hd
  have HX := Lib.hid (And.intro hX (And.intro hr hY))
  go_wp2
  rw [← hX, ← hr, ← hY]
  clear hX hr hwX hzr hzX hsX hXY hY
  go_loopw [7] (fun j wr => ∃ (k : Nat) (M V : Int) (q : ByteArray), j = .int .i64 k ∧ k ≤ 3 ∧ q.size ≤ 1048577 ∧ Blk wr X #[.int .i64 L, .int .i64 W, .string o] ∧ Blk wr Y #[.int .i64 M, .int .i64 V, .string q] ∧ Blk wr r #[.int .i64 0, .int .i64 0, .string ⟨#[]⟩] ∧ Blk wr (r + 1) #[.int .i64 0, .int .i64 0, .string ⟨#[]⟩] ∧ Drawn r z w1 wr) (fun j _ => 3 - (intOf j).toNat)
  case atStart => exact ⟨0, L', W', o', rfl, by omega, hos', bx, by', br, bs, hd⟩
  case round =>
    clear bx by' br bs hd
    obtain ⟨k, M, V, q, rfl, hk, hq, bx, by', br, bs, hd⟩ := hrel
    obtain ⟨b0, b1, b2, -, -, -⟩ := bx.c3
    obtain ⟨c0, c1, c2, g0, g1, g2⟩ := by'.c3
    obtain ⟨r0, r1, r2, f0, f1, f2⟩ := br.c3
    obtain ⟨s0, s1, s2, t0, t1, t2⟩ := bs.c3
    by_cases hgo : k < 3 ∧ L ≠ M
    · obtain ⟨hk3, hLM⟩ := hgo
      have hne : (L != M) = true := by simp [hLM]
      go_wp2_with fail
      with_reducible refine (spec_l11Draw_any _ z _ hd.cur).mono ?_
      rintro e w4 ⟨u, rfl, ⟨M', V', q', rfl, hq'⟩, hd2⟩
      replace bx := hd2.blk bx (by omega)
      replace by' := hd2.blk by' (by omega)
      replace br := hd2.blk br (by omega)
      replace bs := hd2.blk bs (by omega)
      replace hd := hd.trans hd2
      clear hd2 b0 b1 b2 c0 c1 c2 g0 g1 g2 r0 r1 r2 f0 f1 f2 s0 s1 s2 t0 t1 t2
      obtain ⟨c0, c1, c2, g0, g1, g2⟩ := by'.c3
      have hX1 := Blk.past3 (b := Y) bx (by omega) (.int .i64 M') (.int .i64 V') (.string q')
      have hY1 := Blk.put3 by' (.int .i64 M') (.int .i64 V') (.string q')
      have hr1 := Blk.past3 (b := Y) br (by omega) (.int .i64 M') (.int .i64 V') (.string q')
      have hs1 := Blk.past3 (b := Y) bs (by omega) (.int .i64 M') (.int .i64 V') (.string q')
      have hd1 := Drawn.put3 (b := Y) hd (by omega) (.int .i64 M') (.int .i64 V') (.string q')
      clear bx by' br bs hd
      go_wp2
      go_round
      case rel => exact ⟨k + 1, M', V', q', by go_num, by omega, by omega, hX1, hY1, hr1, hs1, hd1⟩
      case measure => simp [intOf]; omega
    · replace hx := hd.toExt hx (by have := HX.out.2.1; omega)
      have hrw : w.heap.size ≤ r := Nat.le_of_eq HX.out.2.1.symm
      have hsw : w.heap.size ≤ r + 1 := by omega
      clear bx by' br bs hd
      by_cases hk3 : k < 3
      · obtain rfl : L = M := Classical.byContradiction fun h => hgo ⟨hk3, h⟩
        clear hgo
        go_wp2
        go_region
        go_wp2
        refine bodyPost_ret (v := .tuple #[.agg #[.int .i64 L, .int .i64 W, .string o], .agg #[.int .i64 L, .int .i64 V, .string q]]) ?_ rfl ⟨_, _, rfl, ⟨_, _, _, rfl, hos⟩, ⟨_, _, _, rfl, hq⟩, ?_⟩
        · simp [results, Try.results68, go_sem, r0, r1, r2, s0, s1, s2]
        · exact (((((((hx.setCell (p := ⟨r, 0, none⟩) hrw _).setCell (p := ⟨r, 1, none⟩) hrw _).setCell (p := ⟨r, 2, none⟩) hrw _).setCell (p := ⟨r + 1, 0, none⟩) hsw _).setCell (p := ⟨r + 1, 1, none⟩) hsw _).setCell (p := ⟨r + 1, 2, none⟩) hsw _)).trans (Ext.drew _)
      · clear hgo
        go_wp2
        go_region
        go_wp2
        refine bodyPost_ret (v := .tuple #[.agg #[.int .i64 L, .int .i64 W, .string o], .agg #[.int .i64 M, .int .i64 V, .string q]]) ?_ rfl ⟨_, _, rfl, ⟨_, _, _, rfl, hos⟩, ⟨_, _, _, rfl, hq⟩, ?_⟩
        · simp [results, Try.results68, go_sem, r0, r1, r2, s0, s1, s2]
        · exact (((((((hx.setCell (p := ⟨r, 0, none⟩) hrw _).setCell (p := ⟨r, 1, none⟩) hrw _).setCell (p := ⟨r, 2, none⟩) hrw _).setCell (p := ⟨r + 1, 0, none⟩) hsw _).setCell (p := ⟨r + 1, 1, none⟩) hsw _).setCell (p := ⟨r + 1, 2, none⟩) hsw _)).trans (Ext.drew _)

theorem compose_some (L W L' W' : Int) (o o' : ByteArray) (w : World) (ho : o.size ≤ 1048577) (ho' : o'.size ≤ 1048577) :
    Calls Try.prog 70 #[.agg #[.int .i64 L, .int .i64 W, .string o], .agg #[.int .i64 L', .int .i64 W', .string o']] w fun e w' => ∃ (M V : Int) (q : ByteArray) (b : Bool), e = .returned (.tuple #[.agg #[.int .i64 M, .int .i64 V, .string q], .bool b]) ∧ q.size ≤ 1048577 ∧ Ext w w' := by
  have hno : ∀ (e : Ending) (w' : World), e = .returned (.tuple #[.agg #[.int .i64 0, .int .i64 0, .string ⟨#[]⟩], .bool false]) ∧ Ext w w' → ∃ (M V : Int) (q : ByteArray) (b : Bool), e = .returned (.tuple #[.agg #[.int .i64 M, .int .i64 V, .string q], .bool b]) ∧ q.size ≤ 1048577 ∧ Ext w w' := by
    rintro e w' ⟨rfl, hx⟩
    exact ⟨_, _, _, _, rfl, by show 0 ≤ 1048577; omega, hx⟩
  cases h : (codeOk L W o && (codeOk L' W' o' && decide (L = L'))) with
  | false => exact (spec_ComposeCodes_no L W L' W' o o' w (by unfold maxLen; omega) (by unfold maxLen; omega) h).mono hno
  | true =>
    simp only [Bool.and_eq_true, decide_eq_true_eq] at h
    obtain ⟨h1, h2, h3⟩ := h
    subst h3
    obtain ⟨K, n, rfl, rfl, hf⟩ := codeFit_of h1
    obtain ⟨K', m, hK, rfl, hf'⟩ := codeFit_of h2
    obtain rfl : K = K' := by omega
    have hn := hf.n1
    have hm := hf'.n1
    cases hw : wideOk K ((n + m - 1 : Nat) : Int) with
    | false => exact (spec_ComposeCodes_wide K n m o o' w h1 h2 hf hf' hw).mono hno
    | true =>
      refine (spec_ComposeCodes_yes K n m (n + m - 1) o o' w h1 h2 hf hf' (by omega) hw).mono ?_
      rintro e w' ⟨rfl, hx⟩
      refine ⟨_, _, _, _, rfl, ?_, hx⟩
      rw [mkS_size, List.length_map, wordsL_length]
      have h4 := (wideOk_yes hw).2.2.2
      rw [pw_nat] at h4
      omega

set_option maxRecDepth 100000 in
set_option maxHeartbeats 8000000 in
theorem spec_DrawSameOnRings_any (v : Value) (xs : List UInt8) (w : World) (h : ReadsB w v xs) :
    Calls Try.prog 31 #[v] w fun e w' => ∃ u u' n, e = .returned (.tuple #[u, u', .int .i64 n]) ∧ CodeV 1048577 u ∧ CodeV 1048577 u' ∧ Ext w w' := by
  have ho := ((OldB.start h).ext (Ext.alloc w (.cells #[.int .i64 0, .int .i64 0, .string ⟨#[]⟩] 25))).ext (Ext.alloc _ (.cells #[.int .i64 0, .int .i64 0, .string ⟨#[]⟩] 25))
  have br : Blk ((w.alloc (.cells #[.int .i64 0, .int .i64 0, .string ⟨#[]⟩] 25)).alloc (.cells #[.int .i64 0, .int .i64 0, .string ⟨#[]⟩] 25)) w.heap.size #[.int .i64 0, .int .i64 0, .string ⟨#[]⟩] := by (repeat (first | (refine Blk.mk' ?_; (simp; done)) | apply Blk.old))
  have bs : Blk ((w.alloc (.cells #[.int .i64 0, .int .i64 0, .string ⟨#[]⟩] 25)).alloc (.cells #[.int .i64 0, .int .i64 0, .string ⟨#[]⟩] 25)) (w.heap.size + 1) #[.int .i64 0, .int .i64 0, .string ⟨#[]⟩] := by (repeat (first | (refine Blk.mk' ?_; (simp; done)) | apply Blk.old))
  have hx0 := (Ext.alloc w (.cells #[.int .i64 0, .int .i64 0, .string ⟨#[]⟩] 25)).trans (Ext.alloc _ (.cells #[.int .i64 0, .int .i64 0, .string ⟨#[]⟩] 25))
  go_enter Try.func31, Try.ntmps31
  go_wp2_with fail
  with_reducible refine ho.new.mono ?_
  rintro e w1 ⟨z, rfl, hz, c, hx⟩
  replace br := br.ext hx
  replace bs := bs.ext hx
  replace hx := hx0.trans hx
  have hzr : w.heap.size + 1 < z := by simp at hz; omega
  clear ho hx0 hz
  go_wp2_with fail
  with_reducible refine (spec_l11Two_any v xs _ (h.ext hx)).mono ?_
  rintro e w2 ⟨_, _, rfl, ⟨L, W, o, rfl, hos⟩, ⟨L', W', o', rfl, hos'⟩, hy⟩
  replace c := c.ext hy
  replace br := br.ext hy
  replace bs := bs.ext hy
  replace hx := hx.trans hy
  clear hy h
  have hzX := c.lt
  have hx1 := (Ext.alloc w2 (.cells #[.int .i64 L, .int .i64 W, .string o] 25)).trans (Ext.alloc _ (.cells #[.int .i64 L', .int .i64 W', .string o'] 25))
  have bx : Blk ((w2.alloc (.cells #[.int .i64 L, .int .i64 W, .string o] 25)).alloc (.cells #[.int .i64 L', .int .i64 W', .string o'] 25)) w2.heap.size #[.int .i64 L, .int .i64 W, .string o] := by (repeat (first | (refine Blk.mk' ?_; (simp; done)) | apply Blk.old))
  have by' : Blk ((w2.alloc (.cells #[.int .i64 L, .int .i64 W, .string o] 25)).alloc (.cells #[.int .i64 L', .int .i64 W', .string o'] 25)) (w2.heap.size + 1) #[.int .i64 L', .int .i64 W', .string o'] := by (repeat (first | (refine Blk.mk' ?_; (simp; done)) | apply Blk.old))
  replace c := c.ext hx1
  replace br := br.ext hx1
  replace bs := bs.ext hx1
  replace hx := hx.trans hx1
  clear hx1
  obtain ⟨X, hX⟩ : ∃ X, X = w2.heap.size := ⟨_, rfl⟩
  obtain ⟨r, hr⟩ : ∃ r, r = w.heap.size := ⟨_, rfl⟩
  have hzX' : z < X := by omega
  have hzr' : r + 1 < z := by omega
  go_wp2_with fail
  with_reducible refine (spec_l1Once_any _ z _ _ c).mono ?_
  rintro e w3 ⟨b, rfl, hd⟩
  replace br := hd.blk br (by omega)
  replace bs := hd.blk bs (by omega)
  replace bx := hd.blk bx (by omega)
  replace by' := hd.blk by' (by omega)
  replace hx := hd.toExt hx (by omega)
  have c := hd.cur
  clear hd
  rw [← hX] at bx by'
  rw [← hr] at br bs c
  rw [← hX, ← hr]
  obtain ⟨s, hs⟩ : ∃ s, s = r + 1 := ⟨_, rfl⟩
  rw [← hs] at bs
  rw [← hs]
  have HX := Lib.hid (And.intro hX (And.intro hr hs))
  have hrw : w.heap.size ≤ r := by omega
  have hrs' : r < s := by omega
  have hsz' : s < z := by omega
  clear hX hr hzr hzX hs
  cases b
  · skip
    obtain ⟨RS, hRS⟩ : ∃ RS : List (Nat × Array Value), RS = [(r, #[.int .i64 L, .int .i64 W, .string o]), (s, #[.int .i64 L', .int .i64 W', .string o'])] := ⟨_, rfl⟩
    have HRS : ∀ p ∈ RS, p.1 = r ∨ p.1 = s := by intro p hp; rw [hRS] at hp; simp at hp; rcases hp with rfl | rfl <;> simp
    have hm1 : (r, #[.int .i64 L, .int .i64 W, .string o]) ∈ RS := by rw [hRS]; simp
    have hm2 : (s, #[.int .i64 L', .int .i64 W', .string o']) ∈ RS := by rw [hRS]; simp
    have ho1 : ∀ p ∈ RS, p.1 = r → p = (r, #[.int .i64 L, .int .i64 W, .string o]) := by
      intro p hp h
      rw [hRS] at hp
      simp only [List.mem_cons, List.not_mem_nil, or_false] at hp
      rcases hp with rfl | rfl
      · rfl
      · simp only at h
        omega
    have ho2 : ∀ p ∈ RS, p.1 = s → p = (s, #[.int .i64 L', .int .i64 W', .string o']) := by
      intro p hp h
      rw [hRS] at hp
      simp only [List.mem_cons, List.not_mem_nil, or_false] at hp
      rcases hp with rfl | rfl
      · simp only at h
        omega
      · rfl
    have hne : ∀ p ∈ RS, p.1 ≠ z := by
      intro p hp
      rcases HRS p hp with h | h <;> omega
    have hlow : ∀ p ∈ RS, w.heap.size ≤ p.1 := by
      intro p hp
      rcases HRS p hp with h | h <;> omega
    have hh1 : Has w3 r (#[.int .i64 L, .int .i64 W, .string o] : Array Value).size := ⟨#[.int .i64 0, .int .i64 0, .string ⟨#[]⟩], rfl, br⟩
    have hh2 : Has w3 s (#[.int .i64 L', .int .i64 W', .string o'] : Array Value).size := ⟨#[.int .i64 0, .int .i64 0, .string ⟨#[]⟩], rfl, bs⟩
    have hrz : r ≠ z := by omega
    have hrs : r ≤ s := by omega
    have hsz : s ≠ z := by omega
    clear hRS
    obtain ⟨b0, b1, b2, -, -, -⟩ := bx.c3
    obtain ⟨c0, c1, c2, -, -, -⟩ := by'.c3
    go_wp2
    refine wp_region_invR (R := (resRel r z RS)) (by kernel_rfl) (.known ?hx4_4_v0 :: .known ?hx4_4_v1 :: .known ?hx4_4_v2 :: .such (IntJ 6) (fun _ _ _ _ h => h) :: .such (LaidJ r z r #[.int .i64 L, .int .i64 W, .string o]) (LaidJ.ok hm1) :: .such (LaidJ r z s #[.int .i64 L', .int .i64 W', .string o']) (LaidJ.ok hm2) :: .such (IntJ 6) (fun _ _ _ _ h => h) :: []) rfl (by kernel_rfl) ?hx4_4_s ?hx4_4_p
    case hx4_4_s =>
      intro vs
      refine ⟨fun w' hxw hj => ?_, fun w' hxw hj => ?_, fun w' hxw hj => ?_, fun w' hxw hj => ?_, fun w' hxw hj => ?_, fun w' hxw hj => ?_, fun w' hxw hj => ?_, trivial⟩
      · have hdw := hxw c
        have hcw := hdw.cur
        have b0 := ResK.cell hdw b0 (by dsimp only; omega) (by intro p hp; rcases HRS p hp with h | h <;> (rw [h]; dsimp only; omega))
        have b1 := ResK.cell hdw b1 (by dsimp only; omega) (by intro p hp; rcases HRS p hp with h | h <;> (rw [h]; dsimp only; omega))
        have b2 := ResK.cell hdw b2 (by dsimp only; omega) (by intro p hp; rcases HRS p hp with h | h <;> (rw [h]; dsimp only; omega))
        have c0 := ResK.cell hdw c0 (by dsimp only; omega) (by intro p hp; rcases HRS p hp with h | h <;> (rw [h]; dsimp only; omega))
        have c1 := ResK.cell hdw c1 (by dsimp only; omega) (by intro p hp; rcases HRS p hp with h | h <;> (rw [h]; dsimp only; omega))
        have c2 := ResK.cell hdw c2 (by dsimp only; omega) (by intro p hp; rcases HRS p hp with h | h <;> (rw [h]; dsimp only; omega))
        clear hj hxw
        go_simp
        try go_bits
        refine ⟨ResK.start hcw, ?_⟩
        rfl
      · have hdw := hxw c
        have hcw := hdw.cur
        have b0 := ResK.cell hdw b0 (by dsimp only; omega) (by intro p hp; rcases HRS p hp with h | h <;> (rw [h]; dsimp only; omega))
        have b1 := ResK.cell hdw b1 (by dsimp only; omega) (by intro p hp; rcases HRS p hp with h | h <;> (rw [h]; dsimp only; omega))
        have b2 := ResK.cell hdw b2 (by dsimp only; omega) (by intro p hp; rcases HRS p hp with h | h <;> (rw [h]; dsimp only; omega))
        have c0 := ResK.cell hdw c0 (by dsimp only; omega) (by intro p hp; rcases HRS p hp with h | h <;> (rw [h]; dsimp only; omega))
        have c1 := ResK.cell hdw c1 (by dsimp only; omega) (by intro p hp; rcases HRS p hp with h | h <;> (rw [h]; dsimp only; omega))
        have c2 := ResK.cell hdw c2 (by dsimp only; omega) (by intro p hp; rcases HRS p hp with h | h <;> (rw [h]; dsimp only; omega))
        clear hj hxw
        go_simp
        try go_bits
        refine ⟨ResK.start hcw, ?_⟩
        rfl
      · have hdw := hxw c
        have hcw := hdw.cur
        have b0 := ResK.cell hdw b0 (by dsimp only; omega) (by intro p hp; rcases HRS p hp with h | h <;> (rw [h]; dsimp only; omega))
        have b1 := ResK.cell hdw b1 (by dsimp only; omega) (by intro p hp; rcases HRS p hp with h | h <;> (rw [h]; dsimp only; omega))
        have b2 := ResK.cell hdw b2 (by dsimp only; omega) (by intro p hp; rcases HRS p hp with h | h <;> (rw [h]; dsimp only; omega))
        have c0 := ResK.cell hdw c0 (by dsimp only; omega) (by intro p hp; rcases HRS p hp with h | h <;> (rw [h]; dsimp only; omega))
        have c1 := ResK.cell hdw c1 (by dsimp only; omega) (by intro p hp; rcases HRS p hp with h | h <;> (rw [h]; dsimp only; omega))
        have c2 := ResK.cell hdw c2 (by dsimp only; omega) (by intro p hp; rcases HRS p hp with h | h <;> (rw [h]; dsimp only; omega))
        clear hj hxw
        go_simp
        try go_bits
        refine ⟨ResK.start hcw, ?_⟩
        rfl
      · have hdw := hxw c
        have hcw := hdw.cur
        have b0 := ResK.cell hdw b0 (by dsimp only; omega) (by intro p hp; rcases HRS p hp with h | h <;> (rw [h]; dsimp only; omega))
        have b1 := ResK.cell hdw b1 (by dsimp only; omega) (by intro p hp; rcases HRS p hp with h | h <;> (rw [h]; dsimp only; omega))
        have b2 := ResK.cell hdw b2 (by dsimp only; omega) (by intro p hp; rcases HRS p hp with h | h <;> (rw [h]; dsimp only; omega))
        have c0 := ResK.cell hdw c0 (by dsimp only; omega) (by intro p hp; rcases HRS p hp with h | h <;> (rw [h]; dsimp only; omega))
        have c1 := ResK.cell hdw c1 (by dsimp only; omega) (by intro p hp; rcases HRS p hp with h | h <;> (rw [h]; dsimp only; omega))
        have c2 := ResK.cell hdw c2 (by dsimp only; omega) (by intro p hp; rcases HRS p hp with h | h <;> (rw [h]; dsimp only; omega))
        clear hj hxw
        go_simp
        try go_bits
        exact ⟨ResK.start hcw, (spec_l1Below_any _ z _ _ hcw).mono (by rintro e w'' ⟨y, rfl, hy, -, hd'⟩; exact ⟨_, rfl, ResK.ofDrawn hd' hne, y, rfl⟩)⟩
      · have hdw := hxw c
        have hcw := hdw.cur
        have b0 := ResK.cell hdw b0 (by dsimp only; omega) (by intro p hp; rcases HRS p hp with h | h <;> (rw [h]; dsimp only; omega))
        have b1 := ResK.cell hdw b1 (by dsimp only; omega) (by intro p hp; rcases HRS p hp with h | h <;> (rw [h]; dsimp only; omega))
        have b2 := ResK.cell hdw b2 (by dsimp only; omega) (by intro p hp; rcases HRS p hp with h | h <;> (rw [h]; dsimp only; omega))
        have c0 := ResK.cell hdw c0 (by dsimp only; omega) (by intro p hp; rcases HRS p hp with h | h <;> (rw [h]; dsimp only; omega))
        have c1 := ResK.cell hdw c1 (by dsimp only; omega) (by intro p hp; rcases HRS p hp with h | h <;> (rw [h]; dsimp only; omega))
        have c2 := ResK.cell hdw c2 (by dsimp only; omega) (by intro p hp; rcases HRS p hp with h | h <;> (rw [h]; dsimp only; omega))
        have hh := hdw.has _ hm1 hh1
        apply Has.elim hh
        intro u0 u1 u2 hb
        have q0 := hb.c3.1
        have q1 := hb.c3.2.1
        have q2 := hb.c3.2.2.1
        have g0 := hb.c3.2.2.2.1
        have g1 := hb.c3.2.2.2.2.1
        have g2 := hb.c3.2.2.2.2.2
        clear hj hxw
        go_simp
        try go_bits
        have hs := ResK.store hcw hm1 (Nat.le_refl _) hrz ho1 hb
        exact ⟨hs.1, hs.1.cur, hs.2⟩
      · have hdw := hxw c
        have hcw := hdw.cur
        have b0 := ResK.cell hdw b0 (by dsimp only; omega) (by intro p hp; rcases HRS p hp with h | h <;> (rw [h]; dsimp only; omega))
        have b1 := ResK.cell hdw b1 (by dsimp only; omega) (by intro p hp; rcases HRS p hp with h | h <;> (rw [h]; dsimp only; omega))
        have b2 := ResK.cell hdw b2 (by dsimp only; omega) (by intro p hp; rcases HRS p hp with h | h <;> (rw [h]; dsimp only; omega))
        have c0 := ResK.cell hdw c0 (by dsimp only; omega) (by intro p hp; rcases HRS p hp with h | h <;> (rw [h]; dsimp only; omega))
        have c1 := ResK.cell hdw c1 (by dsimp only; omega) (by intro p hp; rcases HRS p hp with h | h <;> (rw [h]; dsimp only; omega))
        have c2 := ResK.cell hdw c2 (by dsimp only; omega) (by intro p hp; rcases HRS p hp with h | h <;> (rw [h]; dsimp only; omega))
        have hh := hdw.has _ hm2 hh2
        apply Has.elim hh
        intro u0 u1 u2 hb
        have q0 := hb.c3.1
        have q1 := hb.c3.2.1
        have q2 := hb.c3.2.2.1
        have g0 := hb.c3.2.2.2.1
        have g1 := hb.c3.2.2.2.2.1
        have g2 := hb.c3.2.2.2.2.2
        clear hj hxw
        go_simp
        try go_bits
        have hs := ResK.store hcw hm2 hrs hsz ho2 hb
        exact ⟨hs.1, hs.1.cur, hs.2⟩
      · have hdw := hxw c
        have hcw := hdw.cur
        have b0 := ResK.cell hdw b0 (by dsimp only; omega) (by intro p hp; rcases HRS p hp with h | h <;> (rw [h]; dsimp only; omega))
        have b1 := ResK.cell hdw b1 (by dsimp only; omega) (by intro p hp; rcases HRS p hp with h | h <;> (rw [h]; dsimp only; omega))
        have b2 := ResK.cell hdw b2 (by dsimp only; omega) (by intro p hp; rcases HRS p hp with h | h <;> (rw [h]; dsimp only; omega))
        have c0 := ResK.cell hdw c0 (by dsimp only; omega) (by intro p hp; rcases HRS p hp with h | h <;> (rw [h]; dsimp only; omega))
        have c1 := ResK.cell hdw c1 (by dsimp only; omega) (by intro p hp; rcases HRS p hp with h | h <;> (rw [h]; dsimp only; omega))
        have c2 := ResK.cell hdw c2 (by dsimp only; omega) (by intro p hp; rcases HRS p hp with h | h <;> (rw [h]; dsimp only; omega))
        have k3 : IntJ 6 (vs 3) w' := hj 3 (by kernel_rfl)
        clear hj hxw
        go_simp
        try go_bits
        exact ResK.start hcw
    case' hx4_4_p =>
      intro vs w4 hx4 hk
      replace hx4 := hx4 c
      have k3 : (IntJ 6) (vs 3) w4 := hk 3 _ rfl
      have k4 : (LaidJ r z r #[.int .i64 L, .int .i64 W, .string o]) (vs 4) w4 := hk 4 _ rfl
      have k5 : (LaidJ r z s #[.int .i64 L', .int .i64 W', .string o']) (vs 5) w4 := hk 5 _ rfl
      have k6 : (IntJ 6) (vs 6) w4 := hk 6 _ rfl
      clear hk
      replace b0 := ResK.cell hx4 b0 (by dsimp only; omega) (by intro p hp; rcases HRS p hp with h | h <;> (rw [h]; dsimp only; omega))
      replace b1 := ResK.cell hx4 b1 (by dsimp only; omega) (by intro p hp; rcases HRS p hp with h | h <;> (rw [h]; dsimp only; omega))
      replace b2 := ResK.cell hx4 b2 (by dsimp only; omega) (by intro p hp; rcases HRS p hp with h | h <;> (rw [h]; dsimp only; omega))
      replace c0 := ResK.cell hx4 c0 (by dsimp only; omega) (by intro p hp; rcases HRS p hp with h | h <;> (rw [h]; dsimp only; omega))
      replace c1 := ResK.cell hx4 c1 (by dsimp only; omega) (by intro p hp; rcases HRS p hp with h | h <;> (rw [h]; dsimp only; omega))
      replace c2 := ResK.cell hx4 c2 (by dsimp only; omega) (by intro p hp; rcases HRS p hp with h | h <;> (rw [h]; dsimp only; omega))
      go_simp
    obtain ⟨y, hy⟩ := k6
    rw [hy]
    replace hx := hx4.toExt hx (by omega) hlow
    obtain ⟨r0, r1, r2, -, -, -⟩ := k4.2.c3
    obtain ⟨s0, s1, s2, -, -, -⟩ := k5.2.c3
    clear k3 k4 k5 hy hx4 b0 b1 b2
    go_wp2
    refine bodyPost_ret (v := .tuple #[.agg #[.int .i64 L, .int .i64 W, .string o], .agg #[.int .i64 L', .int .i64 W', .string o'], .int .i64 y]) ?_ rfl ⟨_, _, _, rfl, ⟨_, _, _, rfl, hos⟩, ⟨_, _, _, rfl, hos'⟩, hx⟩
    simp [results, Try.results31, go_sem, r0, r1, r2, s0, s1, s2]
  · obtain ⟨b0, b1, b2, -, -, -⟩ := bx.c3
    go_wp2_with fail
    with_reducible refine (copy_some L _).mono ?_
    rintro e w4 ⟨M1, V1, q1, ok, rfl, hq1, hy⟩
    clear b0 b1 b2
    replace c := c.ext hy
    replace br := br.ext hy
    replace bs := bs.ext hy
    replace bx := bx.ext hy
    replace by' := by'.ext hy
    replace hx := hx.trans hy
    clear hy
    have hya := Ext.alloc w4 (.cells #[.int .i64 M1, .int .i64 V1, .string q1] 25)
    have bc : Blk (w4.alloc (.cells #[.int .i64 M1, .int .i64 V1, .string q1] 25)) w4.heap.size #[.int .i64 M1, .int .i64 V1, .string q1] := by (repeat (first | (refine Blk.mk' ?_; (simp; done)) | apply Blk.old))
    replace c := c.ext hya
    replace br := br.ext hya
    replace bs := bs.ext hya
    replace bx := bx.ext hya
    replace by' := by'.ext hya
    replace hx := hx.trans hya
    clear hya
    obtain ⟨b0, b1, b2, -, -, -⟩ := bx.c3
    obtain ⟨c0, c1, c2, -, -, -⟩ := bc.c3
    go_wp2_with fail
    with_reducible refine (compose_some M1 V1 L W q1 o _ hq1 hos).mono ?_
    rintro e w5 ⟨M2, V2, q2, fine, rfl, hq2, hy⟩
    clear b0 b1 b2 c0 c1 c2 bc
    replace c := c.ext hy
    replace br := br.ext hy
    replace bs := bs.ext hy
    replace bx := bx.ext hy
    replace by' := by'.ext hy
    replace hx := hx.trans hy
    clear hy
    have hzD := c.lt
    have hya := Ext.alloc w5 (.cells #[.int .i64 M2, .int .i64 V2, .string q2] 25)
    have bd : Blk (w5.alloc (.cells #[.int .i64 M2, .int .i64 V2, .string q2] 25)) w5.heap.size #[.int .i64 M2, .int .i64 V2, .string q2] := by (repeat (first | (refine Blk.mk' ?_; (simp; done)) | apply Blk.old))
    replace c := c.ext hya
    replace br := br.ext hya
    replace bs := bs.ext hya
    replace bx := bx.ext hya
    replace by' := by'.ext hya
    replace hx := hx.trans hya
    clear hya
    obtain ⟨D, hD⟩ : ∃ D, D = w5.heap.size := ⟨_, rfl⟩
    rw [← hD] at bd hzD
    generalize hw6 : w5.alloc (.cells #[.int .i64 M2, .int .i64 V2, .string q2] 25) = w6 at c br bs bx by' hx bd
    cases ok
    · go_wp2
      (try rw [hw6]); (try rw [← hD])
      clear hw6 hD
      obtain ⟨RS, hRS⟩ : ∃ RS : List (Nat × Array Value), RS = [(r, #[.int .i64 L, .int .i64 W, .string o]), (s, #[.int .i64 L', .int .i64 W', .string o'])] := ⟨_, rfl⟩
      have HRS : ∀ p ∈ RS, p.1 = r ∨ p.1 = s := by intro p hp; rw [hRS] at hp; simp at hp; rcases hp with rfl | rfl <;> simp
      have hm1 : (r, #[.int .i64 L, .int .i64 W, .string o]) ∈ RS := by rw [hRS]; simp
      have hm2 : (s, #[.int .i64 L', .int .i64 W', .string o']) ∈ RS := by rw [hRS]; simp
      have ho1 : ∀ p ∈ RS, p.1 = r → p = (r, #[.int .i64 L, .int .i64 W, .string o]) := by
        intro p hp h
        rw [hRS] at hp
        simp only [List.mem_cons, List.not_mem_nil, or_false] at hp
        rcases hp with rfl | rfl
        · rfl
        · simp only at h
          omega
      have ho2 : ∀ p ∈ RS, p.1 = s → p = (s, #[.int .i64 L', .int .i64 W', .string o']) := by
        intro p hp h
        rw [hRS] at hp
        simp only [List.mem_cons, List.not_mem_nil, or_false] at hp
        rcases hp with rfl | rfl
        · simp only at h
          omega
        · rfl
      have hne : ∀ p ∈ RS, p.1 ≠ z := by
        intro p hp
        rcases HRS p hp with h | h <;> omega
      have hlow : ∀ p ∈ RS, w.heap.size ≤ p.1 := by
        intro p hp
        rcases HRS p hp with h | h <;> omega
      have hh1 : Has w6 r (#[.int .i64 L, .int .i64 W, .string o] : Array Value).size := ⟨#[.int .i64 0, .int .i64 0, .string ⟨#[]⟩], rfl, br⟩
      have hh2 : Has w6 s (#[.int .i64 L', .int .i64 W', .string o'] : Array Value).size := ⟨#[.int .i64 0, .int .i64 0, .string ⟨#[]⟩], rfl, bs⟩
      have hrz : r ≠ z := by omega
      have hrs : r ≤ s := by omega
      have hsz : s ≠ z := by omega
      clear hRS
      obtain ⟨b0, b1, b2, -, -, -⟩ := bx.c3
      obtain ⟨c0, c1, c2, -, -, -⟩ := by'.c3
      go_wp2
      refine wp_region_invR (R := (resRel r z RS)) (by kernel_rfl) (.known ?hx4_5_v0 :: .known ?hx4_5_v1 :: .known ?hx4_5_v2 :: .such (IntJ 6) (fun _ _ _ _ h => h) :: .such (LaidJ r z r #[.int .i64 L, .int .i64 W, .string o]) (LaidJ.ok hm1) :: .such (LaidJ r z s #[.int .i64 L', .int .i64 W', .string o']) (LaidJ.ok hm2) :: .such (IntJ 6) (fun _ _ _ _ h => h) :: []) rfl (by kernel_rfl) ?hx4_5_s ?hx4_5_p
      case hx4_5_s =>
        intro vs
        refine ⟨fun w' hxw hj => ?_, fun w' hxw hj => ?_, fun w' hxw hj => ?_, fun w' hxw hj => ?_, fun w' hxw hj => ?_, fun w' hxw hj => ?_, fun w' hxw hj => ?_, trivial⟩
        · have hdw := hxw c
          have hcw := hdw.cur
          have b0 := ResK.cell hdw b0 (by dsimp only; omega) (by intro p hp; rcases HRS p hp with h | h <;> (rw [h]; dsimp only; omega))
          have b1 := ResK.cell hdw b1 (by dsimp only; omega) (by intro p hp; rcases HRS p hp with h | h <;> (rw [h]; dsimp only; omega))
          have b2 := ResK.cell hdw b2 (by dsimp only; omega) (by intro p hp; rcases HRS p hp with h | h <;> (rw [h]; dsimp only; omega))
          have c0 := ResK.cell hdw c0 (by dsimp only; omega) (by intro p hp; rcases HRS p hp with h | h <;> (rw [h]; dsimp only; omega))
          have c1 := ResK.cell hdw c1 (by dsimp only; omega) (by intro p hp; rcases HRS p hp with h | h <;> (rw [h]; dsimp only; omega))
          have c2 := ResK.cell hdw c2 (by dsimp only; omega) (by intro p hp; rcases HRS p hp with h | h <;> (rw [h]; dsimp only; omega))
          clear hj hxw
          go_simp
          try go_bits
          refine ⟨ResK.start hcw, ?_⟩
          rfl
        · have hdw := hxw c
          have hcw := hdw.cur
          have b0 := ResK.cell hdw b0 (by dsimp only; omega) (by intro p hp; rcases HRS p hp with h | h <;> (rw [h]; dsimp only; omega))
          have b1 := ResK.cell hdw b1 (by dsimp only; omega) (by intro p hp; rcases HRS p hp with h | h <;> (rw [h]; dsimp only; omega))
          have b2 := ResK.cell hdw b2 (by dsimp only; omega) (by intro p hp; rcases HRS p hp with h | h <;> (rw [h]; dsimp only; omega))
          have c0 := ResK.cell hdw c0 (by dsimp only; omega) (by intro p hp; rcases HRS p hp with h | h <;> (rw [h]; dsimp only; omega))
          have c1 := ResK.cell hdw c1 (by dsimp only; omega) (by intro p hp; rcases HRS p hp with h | h <;> (rw [h]; dsimp only; omega))
          have c2 := ResK.cell hdw c2 (by dsimp only; omega) (by intro p hp; rcases HRS p hp with h | h <;> (rw [h]; dsimp only; omega))
          clear hj hxw
          go_simp
          try go_bits
          refine ⟨ResK.start hcw, ?_⟩
          rfl
        · have hdw := hxw c
          have hcw := hdw.cur
          have b0 := ResK.cell hdw b0 (by dsimp only; omega) (by intro p hp; rcases HRS p hp with h | h <;> (rw [h]; dsimp only; omega))
          have b1 := ResK.cell hdw b1 (by dsimp only; omega) (by intro p hp; rcases HRS p hp with h | h <;> (rw [h]; dsimp only; omega))
          have b2 := ResK.cell hdw b2 (by dsimp only; omega) (by intro p hp; rcases HRS p hp with h | h <;> (rw [h]; dsimp only; omega))
          have c0 := ResK.cell hdw c0 (by dsimp only; omega) (by intro p hp; rcases HRS p hp with h | h <;> (rw [h]; dsimp only; omega))
          have c1 := ResK.cell hdw c1 (by dsimp only; omega) (by intro p hp; rcases HRS p hp with h | h <;> (rw [h]; dsimp only; omega))
          have c2 := ResK.cell hdw c2 (by dsimp only; omega) (by intro p hp; rcases HRS p hp with h | h <;> (rw [h]; dsimp only; omega))
          clear hj hxw
          go_simp
          try go_bits
          refine ⟨ResK.start hcw, ?_⟩
          rfl
        · have hdw := hxw c
          have hcw := hdw.cur
          have b0 := ResK.cell hdw b0 (by dsimp only; omega) (by intro p hp; rcases HRS p hp with h | h <;> (rw [h]; dsimp only; omega))
          have b1 := ResK.cell hdw b1 (by dsimp only; omega) (by intro p hp; rcases HRS p hp with h | h <;> (rw [h]; dsimp only; omega))
          have b2 := ResK.cell hdw b2 (by dsimp only; omega) (by intro p hp; rcases HRS p hp with h | h <;> (rw [h]; dsimp only; omega))
          have c0 := ResK.cell hdw c0 (by dsimp only; omega) (by intro p hp; rcases HRS p hp with h | h <;> (rw [h]; dsimp only; omega))
          have c1 := ResK.cell hdw c1 (by dsimp only; omega) (by intro p hp; rcases HRS p hp with h | h <;> (rw [h]; dsimp only; omega))
          have c2 := ResK.cell hdw c2 (by dsimp only; omega) (by intro p hp; rcases HRS p hp with h | h <;> (rw [h]; dsimp only; omega))
          clear hj hxw
          go_simp
          try go_bits
          exact ⟨ResK.start hcw, (spec_l1Below_any _ z _ _ hcw).mono (by rintro e w'' ⟨y, rfl, hy, -, hd'⟩; exact ⟨_, rfl, ResK.ofDrawn hd' hne, y, rfl⟩)⟩
        · have hdw := hxw c
          have hcw := hdw.cur
          have b0 := ResK.cell hdw b0 (by dsimp only; omega) (by intro p hp; rcases HRS p hp with h | h <;> (rw [h]; dsimp only; omega))
          have b1 := ResK.cell hdw b1 (by dsimp only; omega) (by intro p hp; rcases HRS p hp with h | h <;> (rw [h]; dsimp only; omega))
          have b2 := ResK.cell hdw b2 (by dsimp only; omega) (by intro p hp; rcases HRS p hp with h | h <;> (rw [h]; dsimp only; omega))
          have c0 := ResK.cell hdw c0 (by dsimp only; omega) (by intro p hp; rcases HRS p hp with h | h <;> (rw [h]; dsimp only; omega))
          have c1 := ResK.cell hdw c1 (by dsimp only; omega) (by intro p hp; rcases HRS p hp with h | h <;> (rw [h]; dsimp only; omega))
          have c2 := ResK.cell hdw c2 (by dsimp only; omega) (by intro p hp; rcases HRS p hp with h | h <;> (rw [h]; dsimp only; omega))
          have hh := hdw.has _ hm1 hh1
          apply Has.elim hh
          intro u0 u1 u2 hb
          have q0 := hb.c3.1
          have q1 := hb.c3.2.1
          have q2 := hb.c3.2.2.1
          have g0 := hb.c3.2.2.2.1
          have g1 := hb.c3.2.2.2.2.1
          have g2 := hb.c3.2.2.2.2.2
          clear hj hxw
          go_simp
          try go_bits
          have hs := ResK.store hcw hm1 (Nat.le_refl _) hrz ho1 hb
          exact ⟨hs.1, hs.1.cur, hs.2⟩
        · have hdw := hxw c
          have hcw := hdw.cur
          have b0 := ResK.cell hdw b0 (by dsimp only; omega) (by intro p hp; rcases HRS p hp with h | h <;> (rw [h]; dsimp only; omega))
          have b1 := ResK.cell hdw b1 (by dsimp only; omega) (by intro p hp; rcases HRS p hp with h | h <;> (rw [h]; dsimp only; omega))
          have b2 := ResK.cell hdw b2 (by dsimp only; omega) (by intro p hp; rcases HRS p hp with h | h <;> (rw [h]; dsimp only; omega))
          have c0 := ResK.cell hdw c0 (by dsimp only; omega) (by intro p hp; rcases HRS p hp with h | h <;> (rw [h]; dsimp only; omega))
          have c1 := ResK.cell hdw c1 (by dsimp only; omega) (by intro p hp; rcases HRS p hp with h | h <;> (rw [h]; dsimp only; omega))
          have c2 := ResK.cell hdw c2 (by dsimp only; omega) (by intro p hp; rcases HRS p hp with h | h <;> (rw [h]; dsimp only; omega))
          have hh := hdw.has _ hm2 hh2
          apply Has.elim hh
          intro u0 u1 u2 hb
          have q0 := hb.c3.1
          have q1 := hb.c3.2.1
          have q2 := hb.c3.2.2.1
          have g0 := hb.c3.2.2.2.1
          have g1 := hb.c3.2.2.2.2.1
          have g2 := hb.c3.2.2.2.2.2
          clear hj hxw
          go_simp
          try go_bits
          have hs := ResK.store hcw hm2 hrs hsz ho2 hb
          exact ⟨hs.1, hs.1.cur, hs.2⟩
        · have hdw := hxw c
          have hcw := hdw.cur
          have b0 := ResK.cell hdw b0 (by dsimp only; omega) (by intro p hp; rcases HRS p hp with h | h <;> (rw [h]; dsimp only; omega))
          have b1 := ResK.cell hdw b1 (by dsimp only; omega) (by intro p hp; rcases HRS p hp with h | h <;> (rw [h]; dsimp only; omega))
          have b2 := ResK.cell hdw b2 (by dsimp only; omega) (by intro p hp; rcases HRS p hp with h | h <;> (rw [h]; dsimp only; omega))
          have c0 := ResK.cell hdw c0 (by dsimp only; omega) (by intro p hp; rcases HRS p hp with h | h <;> (rw [h]; dsimp only; omega))
          have c1 := ResK.cell hdw c1 (by dsimp only; omega) (by intro p hp; rcases HRS p hp with h | h <;> (rw [h]; dsimp only; omega))
          have c2 := ResK.cell hdw c2 (by dsimp only; omega) (by intro p hp; rcases HRS p hp with h | h <;> (rw [h]; dsimp only; omega))
          have k3 : IntJ 6 (vs 3) w' := hj 3 (by kernel_rfl)
          clear hj hxw
          go_simp
          try go_bits
          exact ResK.start hcw
      case' hx4_5_p =>
        intro vs w4 hx4 hk
        replace hx4 := hx4 c
        have k3 : (IntJ 6) (vs 3) w4 := hk 3 _ rfl
        have k4 : (LaidJ r z r #[.int .i64 L, .int .i64 W, .string o]) (vs 4) w4 := hk 4 _ rfl
        have k5 : (LaidJ r z s #[.int .i64 L', .int .i64 W', .string o']) (vs 5) w4 := hk 5 _ rfl
        have k6 : (IntJ 6) (vs 6) w4 := hk 6 _ rfl
        clear hk
        replace b0 := ResK.cell hx4 b0 (by dsimp only; omega) (by intro p hp; rcases HRS p hp with h | h <;> (rw [h]; dsimp only; omega))
        replace b1 := ResK.cell hx4 b1 (by dsimp only; omega) (by intro p hp; rcases HRS p hp with h | h <;> (rw [h]; dsimp only; omega))
        replace b2 := ResK.cell hx4 b2 (by dsimp only; omega) (by intro p hp; rcases HRS p hp with h | h <;> (rw [h]; dsimp only; omega))
        replace c0 := ResK.cell hx4 c0 (by dsimp only; omega) (by intro p hp; rcases HRS p hp with h | h <;> (rw [h]; dsimp only; omega))
        replace c1 := ResK.cell hx4 c1 (by dsimp only; omega) (by intro p hp; rcases HRS p hp with h | h <;> (rw [h]; dsimp only; omega))
        replace c2 := ResK.cell hx4 c2 (by dsimp only; omega) (by intro p hp; rcases HRS p hp with h | h <;> (rw [h]; dsimp only; omega))
        go_simp
      obtain ⟨y, hy⟩ := k6
      rw [hy]
      replace hx := hx4.toExt hx (by omega) hlow
      obtain ⟨r0, r1, r2, -, -, -⟩ := k4.2.c3
      obtain ⟨s0, s1, s2, -, -, -⟩ := k5.2.c3
      clear k3 k4 k5 hy hx4 b0 b1 b2
      go_wp2
      refine bodyPost_ret (v := .tuple #[.agg #[.int .i64 L, .int .i64 W, .string o], .agg #[.int .i64 L', .int .i64 W', .string o'], .int .i64 y]) ?_ rfl ⟨_, _, _, rfl, ⟨_, _, _, rfl, hos⟩, ⟨_, _, _, rfl, hos'⟩, hx⟩
      simp [results, Try.results31, go_sem, r0, r1, r2, s0, s1, s2]
    cases fine
    · go_wp2
      (try rw [hw6]); (try rw [← hD])
      clear hw6 hD
      obtain ⟨RS, hRS⟩ : ∃ RS : List (Nat × Array Value), RS = [(r, #[.int .i64 L, .int .i64 W, .string o]), (s, #[.int .i64 L', .int .i64 W', .string o'])] := ⟨_, rfl⟩
      have HRS : ∀ p ∈ RS, p.1 = r ∨ p.1 = s := by intro p hp; rw [hRS] at hp; simp at hp; rcases hp with rfl | rfl <;> simp
      have hm1 : (r, #[.int .i64 L, .int .i64 W, .string o]) ∈ RS := by rw [hRS]; simp
      have hm2 : (s, #[.int .i64 L', .int .i64 W', .string o']) ∈ RS := by rw [hRS]; simp
      have ho1 : ∀ p ∈ RS, p.1 = r → p = (r, #[.int .i64 L, .int .i64 W, .string o]) := by
        intro p hp h
        rw [hRS] at hp
        simp only [List.mem_cons, List.not_mem_nil, or_false] at hp
        rcases hp with rfl | rfl
        · rfl
        · simp only at h
          omega
      have ho2 : ∀ p ∈ RS, p.1 = s → p = (s, #[.int .i64 L', .int .i64 W', .string o']) := by
        intro p hp h
        rw [hRS] at hp
        simp only [List.mem_cons, List.not_mem_nil, or_false] at hp
        rcases hp with rfl | rfl
        · simp only at h
          omega
        · rfl
      have hne : ∀ p ∈ RS, p.1 ≠ z := by
        intro p hp
        rcases HRS p hp with h | h <;> omega
      have hlow : ∀ p ∈ RS, w.heap.size ≤ p.1 := by
        intro p hp
        rcases HRS p hp with h | h <;> omega
      have hh1 : Has w6 r (#[.int .i64 L, .int .i64 W, .string o] : Array Value).size := ⟨#[.int .i64 0, .int .i64 0, .string ⟨#[]⟩], rfl, br⟩
      have hh2 : Has w6 s (#[.int .i64 L', .int .i64 W', .string o'] : Array Value).size := ⟨#[.int .i64 0, .int .i64 0, .string ⟨#[]⟩], rfl, bs⟩
      have hrz : r ≠ z := by omega
      have hrs : r ≤ s := by omega
      have hsz : s ≠ z := by omega
      clear hRS
      obtain ⟨b0, b1, b2, -, -, -⟩ := bx.c3
      obtain ⟨c0, c1, c2, -, -, -⟩ := by'.c3
      go_wp2
      refine wp_region_invR (R := (resRel r z RS)) (by kernel_rfl) (.known ?hx4_6_v0 :: .known ?hx4_6_v1 :: .known ?hx4_6_v2 :: .such (IntJ 6) (fun _ _ _ _ h => h) :: .such (LaidJ r z r #[.int .i64 L, .int .i64 W, .string o]) (LaidJ.ok hm1) :: .such (LaidJ r z s #[.int .i64 L', .int .i64 W', .string o']) (LaidJ.ok hm2) :: .such (IntJ 6) (fun _ _ _ _ h => h) :: []) rfl (by kernel_rfl) ?hx4_6_s ?hx4_6_p
      case hx4_6_s =>
        intro vs
        refine ⟨fun w' hxw hj => ?_, fun w' hxw hj => ?_, fun w' hxw hj => ?_, fun w' hxw hj => ?_, fun w' hxw hj => ?_, fun w' hxw hj => ?_, fun w' hxw hj => ?_, trivial⟩
        · have hdw := hxw c
          have hcw := hdw.cur
          have b0 := ResK.cell hdw b0 (by dsimp only; omega) (by intro p hp; rcases HRS p hp with h | h <;> (rw [h]; dsimp only; omega))
          have b1 := ResK.cell hdw b1 (by dsimp only; omega) (by intro p hp; rcases HRS p hp with h | h <;> (rw [h]; dsimp only; omega))
          have b2 := ResK.cell hdw b2 (by dsimp only; omega) (by intro p hp; rcases HRS p hp with h | h <;> (rw [h]; dsimp only; omega))
          have c0 := ResK.cell hdw c0 (by dsimp only; omega) (by intro p hp; rcases HRS p hp with h | h <;> (rw [h]; dsimp only; omega))
          have c1 := ResK.cell hdw c1 (by dsimp only; omega) (by intro p hp; rcases HRS p hp with h | h <;> (rw [h]; dsimp only; omega))
          have c2 := ResK.cell hdw c2 (by dsimp only; omega) (by intro p hp; rcases HRS p hp with h | h <;> (rw [h]; dsimp only; omega))
          clear hj hxw
          go_simp
          try go_bits
          refine ⟨ResK.start hcw, ?_⟩
          rfl
        · have hdw := hxw c
          have hcw := hdw.cur
          have b0 := ResK.cell hdw b0 (by dsimp only; omega) (by intro p hp; rcases HRS p hp with h | h <;> (rw [h]; dsimp only; omega))
          have b1 := ResK.cell hdw b1 (by dsimp only; omega) (by intro p hp; rcases HRS p hp with h | h <;> (rw [h]; dsimp only; omega))
          have b2 := ResK.cell hdw b2 (by dsimp only; omega) (by intro p hp; rcases HRS p hp with h | h <;> (rw [h]; dsimp only; omega))
          have c0 := ResK.cell hdw c0 (by dsimp only; omega) (by intro p hp; rcases HRS p hp with h | h <;> (rw [h]; dsimp only; omega))
          have c1 := ResK.cell hdw c1 (by dsimp only; omega) (by intro p hp; rcases HRS p hp with h | h <;> (rw [h]; dsimp only; omega))
          have c2 := ResK.cell hdw c2 (by dsimp only; omega) (by intro p hp; rcases HRS p hp with h | h <;> (rw [h]; dsimp only; omega))
          clear hj hxw
          go_simp
          try go_bits
          refine ⟨ResK.start hcw, ?_⟩
          rfl
        · have hdw := hxw c
          have hcw := hdw.cur
          have b0 := ResK.cell hdw b0 (by dsimp only; omega) (by intro p hp; rcases HRS p hp with h | h <;> (rw [h]; dsimp only; omega))
          have b1 := ResK.cell hdw b1 (by dsimp only; omega) (by intro p hp; rcases HRS p hp with h | h <;> (rw [h]; dsimp only; omega))
          have b2 := ResK.cell hdw b2 (by dsimp only; omega) (by intro p hp; rcases HRS p hp with h | h <;> (rw [h]; dsimp only; omega))
          have c0 := ResK.cell hdw c0 (by dsimp only; omega) (by intro p hp; rcases HRS p hp with h | h <;> (rw [h]; dsimp only; omega))
          have c1 := ResK.cell hdw c1 (by dsimp only; omega) (by intro p hp; rcases HRS p hp with h | h <;> (rw [h]; dsimp only; omega))
          have c2 := ResK.cell hdw c2 (by dsimp only; omega) (by intro p hp; rcases HRS p hp with h | h <;> (rw [h]; dsimp only; omega))
          clear hj hxw
          go_simp
          try go_bits
          refine ⟨ResK.start hcw, ?_⟩
          rfl
        · have hdw := hxw c
          have hcw := hdw.cur
          have b0 := ResK.cell hdw b0 (by dsimp only; omega) (by intro p hp; rcases HRS p hp with h | h <;> (rw [h]; dsimp only; omega))
          have b1 := ResK.cell hdw b1 (by dsimp only; omega) (by intro p hp; rcases HRS p hp with h | h <;> (rw [h]; dsimp only; omega))
          have b2 := ResK.cell hdw b2 (by dsimp only; omega) (by intro p hp; rcases HRS p hp with h | h <;> (rw [h]; dsimp only; omega))
          have c0 := ResK.cell hdw c0 (by dsimp only; omega) (by intro p hp; rcases HRS p hp with h | h <;> (rw [h]; dsimp only; omega))
          have c1 := ResK.cell hdw c1 (by dsimp only; omega) (by intro p hp; rcases HRS p hp with h | h <;> (rw [h]; dsimp only; omega))
          have c2 := ResK.cell hdw c2 (by dsimp only; omega) (by intro p hp; rcases HRS p hp with h | h <;> (rw [h]; dsimp only; omega))
          clear hj hxw
          go_simp
          try go_bits
          exact ⟨ResK.start hcw, (spec_l1Below_any _ z _ _ hcw).mono (by rintro e w'' ⟨y, rfl, hy, -, hd'⟩; exact ⟨_, rfl, ResK.ofDrawn hd' hne, y, rfl⟩)⟩
        · have hdw := hxw c
          have hcw := hdw.cur
          have b0 := ResK.cell hdw b0 (by dsimp only; omega) (by intro p hp; rcases HRS p hp with h | h <;> (rw [h]; dsimp only; omega))
          have b1 := ResK.cell hdw b1 (by dsimp only; omega) (by intro p hp; rcases HRS p hp with h | h <;> (rw [h]; dsimp only; omega))
          have b2 := ResK.cell hdw b2 (by dsimp only; omega) (by intro p hp; rcases HRS p hp with h | h <;> (rw [h]; dsimp only; omega))
          have c0 := ResK.cell hdw c0 (by dsimp only; omega) (by intro p hp; rcases HRS p hp with h | h <;> (rw [h]; dsimp only; omega))
          have c1 := ResK.cell hdw c1 (by dsimp only; omega) (by intro p hp; rcases HRS p hp with h | h <;> (rw [h]; dsimp only; omega))
          have c2 := ResK.cell hdw c2 (by dsimp only; omega) (by intro p hp; rcases HRS p hp with h | h <;> (rw [h]; dsimp only; omega))
          have hh := hdw.has _ hm1 hh1
          apply Has.elim hh
          intro u0 u1 u2 hb
          have q0 := hb.c3.1
          have q1 := hb.c3.2.1
          have q2 := hb.c3.2.2.1
          have g0 := hb.c3.2.2.2.1
          have g1 := hb.c3.2.2.2.2.1
          have g2 := hb.c3.2.2.2.2.2
          clear hj hxw
          go_simp
          try go_bits
          have hs := ResK.store hcw hm1 (Nat.le_refl _) hrz ho1 hb
          exact ⟨hs.1, hs.1.cur, hs.2⟩
        · have hdw := hxw c
          have hcw := hdw.cur
          have b0 := ResK.cell hdw b0 (by dsimp only; omega) (by intro p hp; rcases HRS p hp with h | h <;> (rw [h]; dsimp only; omega))
          have b1 := ResK.cell hdw b1 (by dsimp only; omega) (by intro p hp; rcases HRS p hp with h | h <;> (rw [h]; dsimp only; omega))
          have b2 := ResK.cell hdw b2 (by dsimp only; omega) (by intro p hp; rcases HRS p hp with h | h <;> (rw [h]; dsimp only; omega))
          have c0 := ResK.cell hdw c0 (by dsimp only; omega) (by intro p hp; rcases HRS p hp with h | h <;> (rw [h]; dsimp only; omega))
          have c1 := ResK.cell hdw c1 (by dsimp only; omega) (by intro p hp; rcases HRS p hp with h | h <;> (rw [h]; dsimp only; omega))
          have c2 := ResK.cell hdw c2 (by dsimp only; omega) (by intro p hp; rcases HRS p hp with h | h <;> (rw [h]; dsimp only; omega))
          have hh := hdw.has _ hm2 hh2
          apply Has.elim hh
          intro u0 u1 u2 hb
          have q0 := hb.c3.1
          have q1 := hb.c3.2.1
          have q2 := hb.c3.2.2.1
          have g0 := hb.c3.2.2.2.1
          have g1 := hb.c3.2.2.2.2.1
          have g2 := hb.c3.2.2.2.2.2
          clear hj hxw
          go_simp
          try go_bits
          have hs := ResK.store hcw hm2 hrs hsz ho2 hb
          exact ⟨hs.1, hs.1.cur, hs.2⟩
        · have hdw := hxw c
          have hcw := hdw.cur
          have b0 := ResK.cell hdw b0 (by dsimp only; omega) (by intro p hp; rcases HRS p hp with h | h <;> (rw [h]; dsimp only; omega))
          have b1 := ResK.cell hdw b1 (by dsimp only; omega) (by intro p hp; rcases HRS p hp with h | h <;> (rw [h]; dsimp only; omega))
          have b2 := ResK.cell hdw b2 (by dsimp only; omega) (by intro p hp; rcases HRS p hp with h | h <;> (rw [h]; dsimp only; omega))
          have c0 := ResK.cell hdw c0 (by dsimp only; omega) (by intro p hp; rcases HRS p hp with h | h <;> (rw [h]; dsimp only; omega))
          have c1 := ResK.cell hdw c1 (by dsimp only; omega) (by intro p hp; rcases HRS p hp with h | h <;> (rw [h]; dsimp only; omega))
          have c2 := ResK.cell hdw c2 (by dsimp only; omega) (by intro p hp; rcases HRS p hp with h | h <;> (rw [h]; dsimp only; omega))
          have k3 : IntJ 6 (vs 3) w' := hj 3 (by kernel_rfl)
          clear hj hxw
          go_simp
          try go_bits
          exact ResK.start hcw
      case' hx4_6_p =>
        intro vs w4 hx4 hk
        replace hx4 := hx4 c
        have k3 : (IntJ 6) (vs 3) w4 := hk 3 _ rfl
        have k4 : (LaidJ r z r #[.int .i64 L, .int .i64 W, .string o]) (vs 4) w4 := hk 4 _ rfl
        have k5 : (LaidJ r z s #[.int .i64 L', .int .i64 W', .string o']) (vs 5) w4 := hk 5 _ rfl
        have k6 : (IntJ 6) (vs 6) w4 := hk 6 _ rfl
        clear hk
        replace b0 := ResK.cell hx4 b0 (by dsimp only; omega) (by intro p hp; rcases HRS p hp with h | h <;> (rw [h]; dsimp only; omega))
        replace b1 := ResK.cell hx4 b1 (by dsimp only; omega) (by intro p hp; rcases HRS p hp with h | h <;> (rw [h]; dsimp only; omega))
        replace b2 := ResK.cell hx4 b2 (by dsimp only; omega) (by intro p hp; rcases HRS p hp with h | h <;> (rw [h]; dsimp only; omega))
        replace c0 := ResK.cell hx4 c0 (by dsimp only; omega) (by intro p hp; rcases HRS p hp with h | h <;> (rw [h]; dsimp only; omega))
        replace c1 := ResK.cell hx4 c1 (by dsimp only; omega) (by intro p hp; rcases HRS p hp with h | h <;> (rw [h]; dsimp only; omega))
        replace c2 := ResK.cell hx4 c2 (by dsimp only; omega) (by intro p hp; rcases HRS p hp with h | h <;> (rw [h]; dsimp only; omega))
        go_simp
      obtain ⟨y, hy⟩ := k6
      rw [hy]
      replace hx := hx4.toExt hx (by omega) hlow
      obtain ⟨r0, r1, r2, -, -, -⟩ := k4.2.c3
      obtain ⟨s0, s1, s2, -, -, -⟩ := k5.2.c3
      clear k3 k4 k5 hy hx4 b0 b1 b2
      go_wp2
      refine bodyPost_ret (v := .tuple #[.agg #[.int .i64 L, .int .i64 W, .string o], .agg #[.int .i64 L', .int .i64 W', .string o'], .int .i64 y]) ?_ rfl ⟨_, _, _, rfl, ⟨_, _, _, rfl, hos⟩, ⟨_, _, _, rfl, hos'⟩, hx⟩
      simp [results, Try.results31, go_sem, r0, r1, r2, s0, s1, s2]
    · go_wp2
      (try rw [hw6]); (try rw [← hD])
      clear hw6 hD
      obtain ⟨RS, hRS⟩ : ∃ RS : List (Nat × Array Value), RS = [(r, #[.int .i64 L, .int .i64 W, .string o]), (s, #[.int .i64 M2, .int .i64 V2, .string q2])] := ⟨_, rfl⟩
      have HRS : ∀ p ∈ RS, p.1 = r ∨ p.1 = s := by intro p hp; rw [hRS] at hp; simp at hp; rcases hp with rfl | rfl <;> simp
      have hm1 : (r, #[.int .i64 L, .int .i64 W, .string o]) ∈ RS := by rw [hRS]; simp
      have hm2 : (s, #[.int .i64 M2, .int .i64 V2, .string q2]) ∈ RS := by rw [hRS]; simp
      have ho1 : ∀ p ∈ RS, p.1 = r → p = (r, #[.int .i64 L, .int .i64 W, .string o]) := by
        intro p hp h
        rw [hRS] at hp
        simp only [List.mem_cons, List.not_mem_nil, or_false] at hp
        rcases hp with rfl | rfl
        · rfl
        · simp only at h
          omega
      have ho2 : ∀ p ∈ RS, p.1 = s → p = (s, #[.int .i64 M2, .int .i64 V2, .string q2]) := by
        intro p hp h
        rw [hRS] at hp
        simp only [List.mem_cons, List.not_mem_nil, or_false] at hp
        rcases hp with rfl | rfl
        · simp only at h
          omega
        · rfl
      have hne : ∀ p ∈ RS, p.1 ≠ z := by
        intro p hp
        rcases HRS p hp with h | h <;> omega
      have hlow : ∀ p ∈ RS, w.heap.size ≤ p.1 := by
        intro p hp
        rcases HRS p hp with h | h <;> omega
      have hh1 : Has w6 r (#[.int .i64 L, .int .i64 W, .string o] : Array Value).size := ⟨#[.int .i64 0, .int .i64 0, .string ⟨#[]⟩], rfl, br⟩
      have hh2 : Has w6 s (#[.int .i64 M2, .int .i64 V2, .string q2] : Array Value).size := ⟨#[.int .i64 0, .int .i64 0, .string ⟨#[]⟩], rfl, bs⟩
      have hrz : r ≠ z := by omega
      have hrs : r ≤ s := by omega
      have hsz : s ≠ z := by omega
      clear hRS
      obtain ⟨b0, b1, b2, -, -, -⟩ := bx.c3
      obtain ⟨c0, c1, c2, -, -, -⟩ := bd.c3
      go_wp2
      refine wp_region_invR (R := (resRel r z RS)) (by kernel_rfl) (.known ?hx4_7_v0 :: .known ?hx4_7_v1 :: .known ?hx4_7_v2 :: .such (IntJ 6) (fun _ _ _ _ h => h) :: .such (IntJ 6) (fun _ _ _ _ h => h) :: .such (LaidJ r z r #[.int .i64 L, .int .i64 W, .string o]) (LaidJ.ok hm1) :: .such (LaidJ r z s #[.int .i64 M2, .int .i64 V2, .string q2]) (LaidJ.ok hm2) :: .such (IntJ 6) (fun _ _ _ _ h => h) :: []) rfl (by kernel_rfl) ?hx4_7_s ?hx4_7_p
      case hx4_7_s =>
        intro vs
        refine ⟨fun w' hxw hj => ?_, fun w' hxw hj => ?_, fun w' hxw hj => ?_, fun w' hxw hj => ?_, fun w' hxw hj => ?_, fun w' hxw hj => ?_, fun w' hxw hj => ?_, fun w' hxw hj => ?_, trivial⟩
        · have hdw := hxw c
          have hcw := hdw.cur
          have b0 := ResK.cell hdw b0 (by dsimp only; omega) (by intro p hp; rcases HRS p hp with h | h <;> (rw [h]; dsimp only; omega))
          have b1 := ResK.cell hdw b1 (by dsimp only; omega) (by intro p hp; rcases HRS p hp with h | h <;> (rw [h]; dsimp only; omega))
          have b2 := ResK.cell hdw b2 (by dsimp only; omega) (by intro p hp; rcases HRS p hp with h | h <;> (rw [h]; dsimp only; omega))
          have c0 := ResK.cell hdw c0 (by dsimp only; omega) (by intro p hp; rcases HRS p hp with h | h <;> (rw [h]; dsimp only; omega))
          have c1 := ResK.cell hdw c1 (by dsimp only; omega) (by intro p hp; rcases HRS p hp with h | h <;> (rw [h]; dsimp only; omega))
          have c2 := ResK.cell hdw c2 (by dsimp only; omega) (by intro p hp; rcases HRS p hp with h | h <;> (rw [h]; dsimp only; omega))
          clear hj hxw
          go_simp
          try go_bits
          refine ⟨ResK.start hcw, ?_⟩
          rfl
        · have hdw := hxw c
          have hcw := hdw.cur
          have b0 := ResK.cell hdw b0 (by dsimp only; omega) (by intro p hp; rcases HRS p hp with h | h <;> (rw [h]; dsimp only; omega))
          have b1 := ResK.cell hdw b1 (by dsimp only; omega) (by intro p hp; rcases HRS p hp with h | h <;> (rw [h]; dsimp only; omega))
          have b2 := ResK.cell hdw b2 (by dsimp only; omega) (by intro p hp; rcases HRS p hp with h | h <;> (rw [h]; dsimp only; omega))
          have c0 := ResK.cell hdw c0 (by dsimp only; omega) (by intro p hp; rcases HRS p hp with h | h <;> (rw [h]; dsimp only; omega))
          have c1 := ResK.cell hdw c1 (by dsimp only; omega) (by intro p hp; rcases HRS p hp with h | h <;> (rw [h]; dsimp only; omega))
          have c2 := ResK.cell hdw c2 (by dsimp only; omega) (by intro p hp; rcases HRS p hp with h | h <;> (rw [h]; dsimp only; omega))
          clear hj hxw
          go_simp
          try go_bits
          refine ⟨ResK.start hcw, ?_⟩
          rfl
        · have hdw := hxw c
          have hcw := hdw.cur
          have b0 := ResK.cell hdw b0 (by dsimp only; omega) (by intro p hp; rcases HRS p hp with h | h <;> (rw [h]; dsimp only; omega))
          have b1 := ResK.cell hdw b1 (by dsimp only; omega) (by intro p hp; rcases HRS p hp with h | h <;> (rw [h]; dsimp only; omega))
          have b2 := ResK.cell hdw b2 (by dsimp only; omega) (by intro p hp; rcases HRS p hp with h | h <;> (rw [h]; dsimp only; omega))
          have c0 := ResK.cell hdw c0 (by dsimp only; omega) (by intro p hp; rcases HRS p hp with h | h <;> (rw [h]; dsimp only; omega))
          have c1 := ResK.cell hdw c1 (by dsimp only; omega) (by intro p hp; rcases HRS p hp with h | h <;> (rw [h]; dsimp only; omega))
          have c2 := ResK.cell hdw c2 (by dsimp only; omega) (by intro p hp; rcases HRS p hp with h | h <;> (rw [h]; dsimp only; omega))
          clear hj hxw
          go_simp
          try go_bits
          refine ⟨ResK.start hcw, ?_⟩
          rfl
        · have hdw := hxw c
          have hcw := hdw.cur
          have b0 := ResK.cell hdw b0 (by dsimp only; omega) (by intro p hp; rcases HRS p hp with h | h <;> (rw [h]; dsimp only; omega))
          have b1 := ResK.cell hdw b1 (by dsimp only; omega) (by intro p hp; rcases HRS p hp with h | h <;> (rw [h]; dsimp only; omega))
          have b2 := ResK.cell hdw b2 (by dsimp only; omega) (by intro p hp; rcases HRS p hp with h | h <;> (rw [h]; dsimp only; omega))
          have c0 := ResK.cell hdw c0 (by dsimp only; omega) (by intro p hp; rcases HRS p hp with h | h <;> (rw [h]; dsimp only; omega))
          have c1 := ResK.cell hdw c1 (by dsimp only; omega) (by intro p hp; rcases HRS p hp with h | h <;> (rw [h]; dsimp only; omega))
          have c2 := ResK.cell hdw c2 (by dsimp only; omega) (by intro p hp; rcases HRS p hp with h | h <;> (rw [h]; dsimp only; omega))
          clear hj hxw
          go_simp
          try go_bits
          exact ⟨ResK.start hcw, (spec_l1Below_any _ z _ _ hcw).mono (by rintro e w'' ⟨y, rfl, hy, -, hd'⟩; exact ⟨_, rfl, ResK.ofDrawn hd' hne, y, rfl⟩)⟩
        · have hdw := hxw c
          have hcw := hdw.cur
          have b0 := ResK.cell hdw b0 (by dsimp only; omega) (by intro p hp; rcases HRS p hp with h | h <;> (rw [h]; dsimp only; omega))
          have b1 := ResK.cell hdw b1 (by dsimp only; omega) (by intro p hp; rcases HRS p hp with h | h <;> (rw [h]; dsimp only; omega))
          have b2 := ResK.cell hdw b2 (by dsimp only; omega) (by intro p hp; rcases HRS p hp with h | h <;> (rw [h]; dsimp only; omega))
          have c0 := ResK.cell hdw c0 (by dsimp only; omega) (by intro p hp; rcases HRS p hp with h | h <;> (rw [h]; dsimp only; omega))
          have c1 := ResK.cell hdw c1 (by dsimp only; omega) (by intro p hp; rcases HRS p hp with h | h <;> (rw [h]; dsimp only; omega))
          have c2 := ResK.cell hdw c2 (by dsimp only; omega) (by intro p hp; rcases HRS p hp with h | h <;> (rw [h]; dsimp only; omega))
          have k3 : IntJ 6 (vs 3) w' := hj 3 (by kernel_rfl)
          apply IntJ.elim k3
          intro y hy
          clear k3
          clear hj hxw
          go_simp
          try go_bits
          exact ⟨ResK.start hcw, _, rfl⟩
        · have hdw := hxw c
          have hcw := hdw.cur
          have b0 := ResK.cell hdw b0 (by dsimp only; omega) (by intro p hp; rcases HRS p hp with h | h <;> (rw [h]; dsimp only; omega))
          have b1 := ResK.cell hdw b1 (by dsimp only; omega) (by intro p hp; rcases HRS p hp with h | h <;> (rw [h]; dsimp only; omega))
          have b2 := ResK.cell hdw b2 (by dsimp only; omega) (by intro p hp; rcases HRS p hp with h | h <;> (rw [h]; dsimp only; omega))
          have c0 := ResK.cell hdw c0 (by dsimp only; omega) (by intro p hp; rcases HRS p hp with h | h <;> (rw [h]; dsimp only; omega))
          have c1 := ResK.cell hdw c1 (by dsimp only; omega) (by intro p hp; rcases HRS p hp with h | h <;> (rw [h]; dsimp only; omega))
          have c2 := ResK.cell hdw c2 (by dsimp only; omega) (by intro p hp; rcases HRS p hp with h | h <;> (rw [h]; dsimp only; omega))
          have hh := hdw.has _ hm1 hh1
          apply Has.elim hh
          intro u0 u1 u2 hb
          have q0 := hb.c3.1
          have q1 := hb.c3.2.1
          have q2 := hb.c3.2.2.1
          have g0 := hb.c3.2.2.2.1
          have g1 := hb.c3.2.2.2.2.1
          have g2 := hb.c3.2.2.2.2.2
          clear hj hxw
          go_simp
          try go_bits
          have hs := ResK.store hcw hm1 (Nat.le_refl _) hrz ho1 hb
          exact ⟨hs.1, hs.1.cur, hs.2⟩
        · have hdw := hxw c
          have hcw := hdw.cur
          have b0 := ResK.cell hdw b0 (by dsimp only; omega) (by intro p hp; rcases HRS p hp with h | h <;> (rw [h]; dsimp only; omega))
          have b1 := ResK.cell hdw b1 (by dsimp only; omega) (by intro p hp; rcases HRS p hp with h | h <;> (rw [h]; dsimp only; omega))
          have b2 := ResK.cell hdw b2 (by dsimp only; omega) (by intro p hp; rcases HRS p hp with h | h <;> (rw [h]; dsimp only; omega))
          have c0 := ResK.cell hdw c0 (by dsimp only; omega) (by intro p hp; rcases HRS p hp with h | h <;> (rw [h]; dsimp only; omega))
          have c1 := ResK.cell hdw c1 (by dsimp only; omega) (by intro p hp; rcases HRS p hp with h | h <;> (rw [h]; dsimp only; omega))
          have c2 := ResK.cell hdw c2 (by dsimp only; omega) (by intro p hp; rcases HRS p hp with h | h <;> (rw [h]; dsimp only; omega))
          have hh := hdw.has _ hm2 hh2
          apply Has.elim hh
          intro u0 u1 u2 hb
          have p0 := hb.c3.1
          have p1 := hb.c3.2.1
          have p2 := hb.c3.2.2.1
          have g0 := hb.c3.2.2.2.1
          have g1 := hb.c3.2.2.2.2.1
          have g2 := hb.c3.2.2.2.2.2
          clear hj hxw
          go_simp
          try go_bits
          have hs := ResK.store hcw hm2 hrs hsz ho2 hb
          exact ⟨hs.1, hs.1.cur, hs.2⟩
        · have hdw := hxw c
          have hcw := hdw.cur
          have b0 := ResK.cell hdw b0 (by dsimp only; omega) (by intro p hp; rcases HRS p hp with h | h <;> (rw [h]; dsimp only; omega))
          have b1 := ResK.cell hdw b1 (by dsimp only; omega) (by intro p hp; rcases HRS p hp with h | h <;> (rw [h]; dsimp only; omega))
          have b2 := ResK.cell hdw b2 (by dsimp only; omega) (by intro p hp; rcases HRS p hp with h | h <;> (rw [h]; dsimp only; omega))
          have c0 := ResK.cell hdw c0 (by dsimp only; omega) (by intro p hp; rcases HRS p hp with h | h <;> (rw [h]; dsimp only; omega))
          have c1 := ResK.cell hdw c1 (by dsimp only; omega) (by intro p hp; rcases HRS p hp with h | h <;> (rw [h]; dsimp only; omega))
          have c2 := ResK.cell hdw c2 (by dsimp only; omega) (by intro p hp; rcases HRS p hp with h | h <;> (rw [h]; dsimp only; omega))
          have k4 : IntJ 6 (vs 4) w' := hj 4 (by kernel_rfl)
          clear hj hxw
          go_simp
          try go_bits
          exact ResK.start hcw
      case' hx4_7_p =>
        intro vs w4 hx4 hk
        replace hx4 := hx4 c
        have k3 : (IntJ 6) (vs 3) w4 := hk 3 _ rfl
        have k4 : (IntJ 6) (vs 4) w4 := hk 4 _ rfl
        have k5 : (LaidJ r z r #[.int .i64 L, .int .i64 W, .string o]) (vs 5) w4 := hk 5 _ rfl
        have k6 : (LaidJ r z s #[.int .i64 M2, .int .i64 V2, .string q2]) (vs 6) w4 := hk 6 _ rfl
        have k7 : (IntJ 6) (vs 7) w4 := hk 7 _ rfl
        clear hk
        replace b0 := ResK.cell hx4 b0 (by dsimp only; omega) (by intro p hp; rcases HRS p hp with h | h <;> (rw [h]; dsimp only; omega))
        replace b1 := ResK.cell hx4 b1 (by dsimp only; omega) (by intro p hp; rcases HRS p hp with h | h <;> (rw [h]; dsimp only; omega))
        replace b2 := ResK.cell hx4 b2 (by dsimp only; omega) (by intro p hp; rcases HRS p hp with h | h <;> (rw [h]; dsimp only; omega))
        replace c0 := ResK.cell hx4 c0 (by dsimp only; omega) (by intro p hp; rcases HRS p hp with h | h <;> (rw [h]; dsimp only; omega))
        replace c1 := ResK.cell hx4 c1 (by dsimp only; omega) (by intro p hp; rcases HRS p hp with h | h <;> (rw [h]; dsimp only; omega))
        replace c2 := ResK.cell hx4 c2 (by dsimp only; omega) (by intro p hp; rcases HRS p hp with h | h <;> (rw [h]; dsimp only; omega))
        go_simp
      have k4' := k5
      have k5' := k6
      clear k4 k5 k6
      have k4 := k4'
      have k5 := k5'
      have k6 := k7
      clear k4' k5' k7
      obtain ⟨y, hy⟩ := k6
      rw [hy]
      replace hx := hx4.toExt hx (by omega) hlow
      obtain ⟨r0, r1, r2, -, -, -⟩ := k4.2.c3
      obtain ⟨s0, s1, s2, -, -, -⟩ := k5.2.c3
      clear k3 k4 k5 hy hx4 b0 b1 b2
      go_wp2
      refine bodyPost_ret (v := .tuple #[.agg #[.int .i64 L, .int .i64 W, .string o], .agg #[.int .i64 M2, .int .i64 V2, .string q2], .int .i64 y]) ?_ rfl ⟨_, _, _, rfl, ⟨_, _, _, rfl, hos⟩, ⟨_, _, _, rfl, hq2⟩, hx⟩
      simp [results, Try.results31, go_sem, r0, r1, r2, s0, s1, s2]
end Go.Proofs.Ytfkdpeifnfpldaa
