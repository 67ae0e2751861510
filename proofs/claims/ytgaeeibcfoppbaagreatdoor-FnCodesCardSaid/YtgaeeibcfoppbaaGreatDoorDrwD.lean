/- Contracts: the draws of codes, words and numbers. -/
import Derived.Test.YtgaeeibcfoppbaaGreatDoorDrwC
namespace Go.Proofs.YtgaeeibcfoppbaaGreatDoor
open Go.RowKit Go.Cm

/-- the bytes of the draw lie below B -/
def OldB (B : Nat) (w : World) (v : Value) (xs : List UInt8) : Prop := B ≤ w.heap.size ∧ ∀ w', (∀ k, k < B → w'.heap[k]? = w.heap[k]?) → ReadsB w' v xs
theorem OldB.start {w : World} {v : Value} {xs : List UInt8} (h : ReadsB w v xs) : OldB w.heap.size w v xs := ⟨Nat.le_refl _, fun _ hb => Reads.old h hb⟩
theorem OldB.ext {B : Nat} {w w1 : World} {v : Value} {xs : List UInt8} (h : OldB B w v xs) (hx : Ext w w1) : OldB B w1 v xs :=
  ⟨Nat.le_trans h.1 hx.size, fun w' hb => h.2 w' fun k hk => (hb k hk).trans (hx.block k (Nat.lt_of_lt_of_le hk h.1))⟩
theorem OldB.new {B : Nat} {w : World} {v : Value} {xs : List UInt8} (h : OldB B w v xs) :
    Calls Tryz.prog 38 #[v] w fun e w' => ∃ z, e = .returned (.pointer (some ⟨z, 0, none⟩)) ∧ w.heap.size ≤ z ∧ Cur B w' z ∧ Ext w w' := spec_l1New_any B v xs w h.1 h.2


set_option maxRecDepth 100000 in
set_option maxHeartbeats 2000000 in
theorem spec_l11Case_any (v : Value) (xs : List UInt8) (w : World) (h : ReadsB w v xs) :
    Calls Tryz.prog 34 #[v] w fun e w' => ∃ u s, e = .returned (.tuple #[u, .string s]) ∧ CodeV 1048577 u ∧ s.size ≤ 1000000 ∧ Ext w w' := by
  have ho := (OldB.start h).ext (Ext.alloc w (.cells #[.int .i64 0, .int .i64 0, .string ⟨#[]⟩] 25))
  have br : Blk (w.alloc (.cells #[.int .i64 0, .int .i64 0, .string ⟨#[]⟩] 25)) w.heap.size #[.int .i64 0, .int .i64 0, .string ⟨#[]⟩] := by (repeat (first | (refine Blk.mk' ?_; (simp; done)) | apply Blk.old))
  have hx0 := Ext.alloc w (.cells #[.int .i64 0, .int .i64 0, .string ⟨#[]⟩] 25)
  clear h
  go_enter Tryz.func34, Tryz.ntmps34
  go_wp2_with fail
  with_reducible refine ho.new.mono ?_
  rintro e w1 ⟨z, rfl, hz, c, hx⟩
  replace br := br.ext hx
  replace hx := hx0.trans hx
  have hzr : w.heap.size < z := by simp at hz; omega
  clear ho hx0 hz
  go_wp2_with fail
  with_reducible refine (spec_l11Bent_any _ z _ c).mono ?_
  rintro e w2 ⟨u, rfl, ⟨L, W, o, rfl, hos⟩, hd⟩
  have hrX := br.lt
  have hwX := hd.grown.size
  have bx : Blk (w2.alloc (.cells #[.int .i64 L, .int .i64 W, .string o] 25)) w2.heap.size #[.int .i64 L, .int .i64 W, .string o] := by (repeat (first | (refine Blk.mk' ?_; (simp; done)) | apply Blk.old))
  replace br := (hd.blk br (by omega)).old (o := .cells #[.int .i64 L, .int .i64 W, .string o] 25)
  have hzX := hd.cur.lt
  replace hd := hd.alloc (.cells #[.int .i64 L, .int .i64 W, .string o] 25)
  obtain ⟨X, hX⟩ : ∃ X, X = w2.heap.size := ⟨_, rfl⟩
  obtain ⟨r, hr⟩ : ∃ r, r = w.heap.size := ⟨_, rfl⟩
  have hXz : z < X := by omega
  have hzr' : r < z := by omega
  go_wp2_with fail
  with_reducible refine (spec_l1Once_any _ z _ _ hd.cur).mono ?_
  rintro e w3 ⟨b, rfl, hd2⟩
  replace br := hd2.blk br (by omega)
  replace bx := hd2.blk bx (by omega)
  replace hd := hd.trans hd2
  clear hd2
  rw [← hX] at bx
  rw [← hr] at br hd
  rw [← hX, ← hr]
  have HX := Lib.hid (And.intro hX hr)
  clear hX hr hrX hwX hzr hzX
  obtain ⟨b0, b1, b2, -, -, -⟩ := bx.c3
  cases b
  · obtain ⟨m, hm⟩ : ∃ m, m = if L < 3 then L else 3 := ⟨_, rfl⟩
    obtain ⟨k, hk⟩ : ∃ k, k = if m < 1 then 1 else m := ⟨_, rfl⟩
    obtain ⟨n, hn, hn1, hn3⟩ : ∃ n : Nat, k = (n : Int) ∧ 1 ≤ n ∧ n ≤ 3 := by
      have h1 : 1 ≤ k ∧ k ≤ 3 := by rw [hk, hm]; split <;> split <;> omega
      exact ⟨k.toNat, by omega, by omega, by omega⟩
    rw [hn] at hk
    have HM := Lib.hid (And.intro hm hk)
    clear hm hk hn
    go_wp2
    refine wp_region_tailR (R := (drawRel r z)) (by kernel_rfl) 7 (.known ?hx5_7_v0 :: .known ?hx5_7_v1 :: .known ?hx5_7_v2 :: .known ?hx5_7_v3 :: .known (.int .i64 m) :: .known (.int .i64 n) :: .such (StrLe 1000000) (fun _ _ _ _ h => h) :: []) rfl (by decide) (by kernel_rfl) (by kernel_rfl) ?hx5_7_s ?hx5_7_p
    case hx5_7_s =>
      intro vs
      refine ⟨fun w' hxw hj => ?_, fun w' hxw hj => ?_, fun w' hxw hj => ?_, fun w' hxw hj => ?_, fun w' hxw hj => ?_, fun w' hxw hj => ?_, fun w' hxw hj => ?_, trivial⟩
      · have hdw := hxw hd.cur
        have hcw := hdw.cur
        have b0 := Drawn.cell hdw b0 (by dsimp only; omega)
        have b1 := Drawn.cell hdw b1 (by dsimp only; omega)
        have b2 := Drawn.cell hdw b2 (by dsimp only; omega)
        clear hj hxw
        go_simp
        try go_bits
        refine ⟨Drawn.start hcw, ?_⟩
        rfl
      · have hdw := hxw hd.cur
        have hcw := hdw.cur
        have b0 := Drawn.cell hdw b0 (by dsimp only; omega)
        have b1 := Drawn.cell hdw b1 (by dsimp only; omega)
        have b2 := Drawn.cell hdw b2 (by dsimp only; omega)
        clear hj hxw
        go_simp
        try go_bits
        refine ⟨Drawn.start hcw, ?_⟩
        rfl
      · have hdw := hxw hd.cur
        have hcw := hdw.cur
        have b0 := Drawn.cell hdw b0 (by dsimp only; omega)
        have b1 := Drawn.cell hdw b1 (by dsimp only; omega)
        have b2 := Drawn.cell hdw b2 (by dsimp only; omega)
        clear hj hxw
        go_simp
        try go_bits
        refine ⟨Drawn.start hcw, ?_⟩
        rfl
      · have hdw := hxw hd.cur
        have hcw := hdw.cur
        have b0 := Drawn.cell hdw b0 (by dsimp only; omega)
        have b1 := Drawn.cell hdw b1 (by dsimp only; omega)
        have b2 := Drawn.cell hdw b2 (by dsimp only; omega)
        clear hj hxw
        go_simp
        try go_bits
        refine ⟨Drawn.start hcw, ?_⟩
        rfl
      · have hdw := hxw hd.cur
        have hcw := hdw.cur
        have b0 := Drawn.cell hdw b0 (by dsimp only; omega)
        have b1 := Drawn.cell hdw b1 (by dsimp only; omega)
        have b2 := Drawn.cell hdw b2 (by dsimp only; omega)
        clear hj hxw
        go_simp
        try go_bits
        refine ⟨Drawn.start hcw, (dr_l1Min L 3 _).mono ?_⟩
        rintro e w'' ⟨rfl, rfl⟩
        rw [← HM.out.1]
        exact ⟨rfl, Drawn.start hcw⟩
      · have hdw := hxw hd.cur
        have hcw := hdw.cur
        have b0 := Drawn.cell hdw b0 (by dsimp only; omega)
        have b1 := Drawn.cell hdw b1 (by dsimp only; omega)
        have b2 := Drawn.cell hdw b2 (by dsimp only; omega)
        clear hj hxw
        go_simp
        try go_bits
        refine ⟨Drawn.start hcw, (dr_l1Max 1 m _).mono ?_⟩
        rintro e w'' ⟨rfl, rfl⟩
        rw [← HM.out.2]
        exact ⟨rfl, Drawn.start hcw⟩
      · have hdw := hxw hd.cur
        have hcw := hdw.cur
        have b0 := Drawn.cell hdw b0 (by dsimp only; omega)
        have b1 := Drawn.cell hdw b1 (by dsimp only; omega)
        have b2 := Drawn.cell hdw b2 (by dsimp only; omega)
        clear hj hxw
        go_simp
        try go_bits
        exact ⟨Drawn.start hcw, (spec_l2Draw_any _ z n 9 _ hcw hn1 hn3 (by omega)).mono (by rintro e w'' ⟨x, rfl, hm, hd'⟩; exact ⟨_, rfl, hd', x, rfl, by omega⟩)⟩
    case' hx5_7_p =>
      intro vs w5 hx5 hk
      replace hx5 := hx5 hd.cur
      have k6 : (StrLe 1000000) (vs 6) w5 := hk 6 _ rfl
      clear hk
      replace b0 := Drawn.cell hx5 b0 (by dsimp only; omega)
      replace b1 := Drawn.cell hx5 b1 (by dsimp only; omega)
      replace b2 := Drawn.cell hx5 b2 (by dsimp only; omega)
      go_simp
    obtain ⟨x, hx', hxs⟩ := k6
    rw [hx']
    replace br := hx5.blk br (by omega)
    replace hd := hd.trans hx5
    replace hx := hd.toExt hx (by have := HX.out.2; omega)
    obtain ⟨r0, r1, r2, f0, f1, f2⟩ := br.c3
    go_wp2
    refine bodyPost_ret (v := .tuple #[.agg #[.int .i64 L, .int .i64 W, .string o], .string x]) ?_ rfl ⟨_, _, rfl, ⟨L, W, o, rfl, hos⟩, hxs, ((hx.setCell (Nat.le_of_eq HX.out.2.symm) _).setCell (Nat.le_of_eq HX.out.2.symm) _).setCell (Nat.le_of_eq HX.out.2.symm) _⟩
    simp [results, Tryz.results34, go_sem, r0, r1, r2]
  · go_wp2
    refine wp_region_tailR (R := (drawRel r z)) (by kernel_rfl) 3 (.known ?hx5_8_v0 :: .known ?hx5_8_v1 :: .such (StrLe 1000000) (fun _ _ _ _ h => h) :: []) rfl (by decide) (by kernel_rfl) (by kernel_rfl) ?hx5_8_s ?hx5_8_p
    case hx5_8_s =>
      intro vs
      refine ⟨fun w' hxw hj => ?_, fun w' hxw hj => ?_, fun w' hxw hj => ?_, trivial⟩
      · have hdw := hxw hd.cur
        have hcw := hdw.cur
        have b0 := Drawn.cell hdw b0 (by dsimp only; omega)
        have b1 := Drawn.cell hdw b1 (by dsimp only; omega)
        have b2 := Drawn.cell hdw b2 (by dsimp only; omega)
        clear hj hxw
        go_simp
        try go_bits
        refine ⟨Drawn.start hcw, ?_⟩
        rfl
      · have hdw := hxw hd.cur
        have hcw := hdw.cur
        have b0 := Drawn.cell hdw b0 (by dsimp only; omega)
        have b1 := Drawn.cell hdw b1 (by dsimp only; omega)
        have b2 := Drawn.cell hdw b2 (by dsimp only; omega)
        clear hj hxw
        go_simp
        try go_bits
        refine ⟨Drawn.start hcw, ?_⟩
        rfl
      · have hdw := hxw hd.cur
        have hcw := hdw.cur
        have b0 := Drawn.cell hdw b0 (by dsimp only; omega)
        have b1 := Drawn.cell hdw b1 (by dsimp only; omega)
        have b2 := Drawn.cell hdw b2 (by dsimp only; omega)
        clear hj hxw
        go_simp
        try go_bits
        exact ⟨Drawn.start hcw, (spec_l2Bent_any _ z _ hcw).mono (by rintro e w'' ⟨x, rfl, hm, hd'⟩; exact ⟨_, rfl, hd', x, rfl, hm⟩)⟩
    case' hx5_8_p =>
      intro vs w5 hx5 hk
      replace hx5 := hx5 hd.cur
      have k2 : (StrLe 1000000) (vs 2) w5 := hk 2 _ rfl
      clear hk
      replace b0 := Drawn.cell hx5 b0 (by dsimp only; omega)
      replace b1 := Drawn.cell hx5 b1 (by dsimp only; omega)
      replace b2 := Drawn.cell hx5 b2 (by dsimp only; omega)
      go_simp
    obtain ⟨x, hx', hxs⟩ := k2
    rw [hx']
    replace br := hx5.blk br (by omega)
    replace hd := hd.trans hx5
    replace hx := hd.toExt hx (by have := HX.out.2; omega)
    obtain ⟨r0, r1, r2, f0, f1, f2⟩ := br.c3
    go_wp2
    refine bodyPost_ret (v := .tuple #[.agg #[.int .i64 L, .int .i64 W, .string o], .string x]) ?_ rfl ⟨_, _, rfl, ⟨L, W, o, rfl, hos⟩, hxs, ((hx.setCell (Nat.le_of_eq HX.out.2.symm) _).setCell (Nat.le_of_eq HX.out.2.symm) _).setCell (Nat.le_of_eq HX.out.2.symm) _⟩
    simp [results, Tryz.results34, go_sem, r0, r1, r2]

end Go.Proofs.YtgaeeibcfoppbaaGreatDoor
