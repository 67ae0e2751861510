/- Contracts: the draws of codes to be undone, and of two codes. -/
import Derived.Test.YtgaeeibcfoppbaaGreatDoorDrwE
import Derived.Test.YtgaeeibcfoppbaaGreatDoorCopyB
import Derived.Test.YtgaeeibcfoppbaaGreatDoorCompB
import Derived.Test.YtgaeeibcfoppbaaGreatDoorPkM
namespace Go.Proofs.YtgaeeibcfoppbaaGreatDoor
open Go.RowKit Go.Cm

/-- the blocks of a code's three cells, stored into another block -/
theorem Blk.put3 {w : World} {b : Nat} {u0 u1 u2 : Value} (h : Blk w b #[u0, u1, u2]) (x y t : Value) : Blk (((w.setCell ⟨b, 0, none⟩ x).setCell ⟨b, 1, none⟩ y).setCell ⟨b, 2, none⟩ t) b #[x, y, t] := by
  have := ((h.set (i := 0) (by simp) x).set (i := 1) (by simp) y).set (i := 2) (by simp) t
  simpa using this
theorem Blk.past3 {w : World} {b d : Nat} {c : Array Value} (h : Blk w d c) (hne : b ≠ d) (x y t : Value) : Blk (((w.setCell ⟨b, 0, none⟩ x).setCell ⟨b, 1, none⟩ y).setCell ⟨b, 2, none⟩ t) d c :=
  ((h.other hne x).other hne y).other hne t
theorem Drawn.put3 {B z : Nat} {a w : World} (h : Drawn B z a w) {b : Nat} (hb : a.heap.size ≤ b) (x y t : Value) : Drawn B z a (((w.setCell ⟨b, 0, none⟩ x).setCell ⟨b, 1, none⟩ y).setCell ⟨b, 2, none⟩ t) :=
  ((h.store (p := ⟨b, 0, none⟩) hb x).store (p := ⟨b, 1, none⟩) hb y).store (p := ⟨b, 2, none⟩) hb t

theorem copy_some (L : Int) (w : World) : Calls Tryz.prog 19 #[.int .i64 L, .int .i64 1, .int .i64 0] w fun e w' => ∃ (L' W' : Int) (o' : ByteArray) (b : Bool), e = .returned (.tuple #[.agg #[.int .i64 L', .int .i64 W', .string o'], .bool b]) ∧ o'.size ≤ 1048577 ∧ Ext w w' := by
  cases h : copyOk L 1 0 with
  | false => exact (spec_CopyCode_no L 1 0 w h).mono (by rintro e w' ⟨rfl, hx⟩; exact ⟨_, _, _, _, rfl, by show 0 ≤ 1048577; omega, hx⟩)
  | true =>
    have hh : wideOk L 1 = true := by simpa [copyOk] using h
    have hw := wideOk_yes hh
    obtain ⟨K, rfl⟩ := Int.eq_ofNat_of_zero_le (show 0 ≤ L by omega)
    refine (spec_CopyCode_yes K 1 0 w h).mono ?_
    rintro e w' ⟨rfl, hx⟩
    refine ⟨_, _, _, _, rfl, ?_, hx⟩
    rw [mkS_size, List.length_map, wordsL_length]
    simp
    omega


set_option maxRecDepth 100000 in
set_option maxHeartbeats 4000000 in
theorem spec_l11Two_any (v : Value) (xs : List UInt8) (w : World) (h : ReadsB w v xs) :
    Calls Tryz.prog 25 #[v] w fun e w' => ∃ u u', e = .returned (.tuple #[u, u']) ∧ CodeV 1048577 u ∧ CodeV 1048577 u' ∧ Ext w w' := by
  have ho := ((OldB.start h).ext (Ext.alloc w (.cells #[.int .i64 0, .int .i64 0, .string ⟨#[]⟩] 25))).ext (Ext.alloc _ (.cells #[.int .i64 0, .int .i64 0, .string ⟨#[]⟩] 25))
  have br : Blk ((w.alloc (.cells #[.int .i64 0, .int .i64 0, .string ⟨#[]⟩] 25)).alloc (.cells #[.int .i64 0, .int .i64 0, .string ⟨#[]⟩] 25)) w.heap.size #[.int .i64 0, .int .i64 0, .string ⟨#[]⟩] := by (repeat (first | (refine Blk.mk' ?_; (simp; done)) | apply Blk.old))
  have bs : Blk ((w.alloc (.cells #[.int .i64 0, .int .i64 0, .string ⟨#[]⟩] 25)).alloc (.cells #[.int .i64 0, .int .i64 0, .string ⟨#[]⟩] 25)) (w.heap.size + 1) #[.int .i64 0, .int .i64 0, .string ⟨#[]⟩] := by (repeat (first | (refine Blk.mk' ?_; (simp; done)) | apply Blk.old))
  have hx0 := (Ext.alloc w (.cells #[.int .i64 0, .int .i64 0, .string ⟨#[]⟩] 25)).trans (Ext.alloc _ (.cells #[.int .i64 0, .int .i64 0, .string ⟨#[]⟩] 25))
  go_enter Tryz.func25, Tryz.ntmps25
  go_wp2_with fail
  with_reducible refine ho.new.mono ?_
  rintro e w1 ⟨z, rfl, hz, c, hx⟩
  replace br := br.ext hx
  replace bs := bs.ext hx
  replace hx := hx0.trans hx
  have hzr : w.heap.size + 1 < z := by simp at hz; omega
  clear ho hx0 hz
  clear h
  go_wp2_with fail
  with_reducible refine (spec_l11Bent_any _ z _ c).mono ?_
  rintro e w2 ⟨u, rfl, ⟨L, W, o, rfl, hos⟩, hd⟩
  have hwX := hd.grown.size
  have hsX := bs.lt
  have bx : Blk (w2.alloc (.cells #[.int .i64 L, .int .i64 W, .string o] 25)) w2.heap.size #[.int .i64 L, .int .i64 W, .string o] := by (repeat (first | (refine Blk.mk' ?_; (simp; done)) | apply Blk.old))
  replace br := (hd.blk br (by omega)).old (o := .cells #[.int .i64 L, .int .i64 W, .string o] 25)
  replace bs := (hd.blk bs (by omega)).old (o := .cells #[.int .i64 L, .int .i64 W, .string o] 25)
  have hzX := hd.cur.lt
  replace hd := hd.alloc (.cells #[.int .i64 L, .int .i64 W, .string o] 25)
  obtain ⟨X, hX⟩ : ∃ X, X = w2.heap.size := ⟨_, rfl⟩
  obtain ⟨r, hr⟩ : ∃ r, r = w.heap.size := ⟨_, rfl⟩
  have hXz : z < X := by omega
  have hXw : w1.heap.size ≤ X := by omega
  have hzr' : r + 1 < z := by omega
  go_wp2_with fail
  with_reducible refine (spec_l11Bent_any _ z _ hd.cur).mono ?_
  rintro e w3 ⟨u, rfl, ⟨L', W', o', rfl, hos'⟩, hd2⟩
  replace br := hd2.blk br (by omega)
  replace bs := hd2.blk bs (by omega)
  replace bx := hd2.blk bx (by omega)
  replace hd := hd.trans hd2
  clear hd2
  have hXY := bx.lt
  have by' : Blk (w3.alloc (.cells #[.int .i64 L', .int .i64 W', .string o'] 25)) w3.heap.size #[.int .i64 L', .int .i64 W', .string o'] := by (repeat (first | (refine Blk.mk' ?_; (simp; done)) | apply Blk.old))
  replace br := br.old (o := .cells #[.int .i64 L', .int .i64 W', .string o'] 25)
  replace bs := bs.old (o := .cells #[.int .i64 L', .int .i64 W', .string o'] 25)
  replace bx := bx.old (o := .cells #[.int .i64 L', .int .i64 W', .string o'] 25)
  replace hd := hd.alloc (.cells #[.int .i64 L', .int .i64 W', .string o'] 25)
  obtain ⟨Y, hY⟩ : ∃ Y, Y = w3.heap.size := ⟨_, rfl⟩
  rw [← hX] at bx hXY
  have hXY' : X < Y := by omega
  rw [← hY] at by'
  rw [← hr] at br bs hd
  have HX := Lib.hid (And.intro hX (And.intro hr hY))
  go_wp2
  rw [← hX, ← hr, ← hY]
  clear hX hr hwX hzr hzX hsX hXY hY
  go_loopw [7] (fun j wr => ∃ (k : Nat) (M V : Int) (q : ByteArray), j = .int .i64 k ∧ k ≤ 3 ∧ q.size ≤ 1048577 ∧ Blk wr X #[.int .i64 L, .int .i64 W, .string o] ∧ Blk wr Y #[.int .i64 M, .int .i64 V, .string q] ∧ Blk wr r #[.int .i64 0, .int .i64 0, .string ⟨#[]⟩] ∧ Blk wr (r + 1) #[.int .i64 0, .int .i64 0, .string ⟨#[]⟩] ∧ Drawn r z w1 wr) (fun j _ => 3 - (intOf j).toNat)
  case atStart => exact ⟨0, L', W', o', rfl, by omega, hos', bx, by', br, bs, hd⟩
  case round =>
    clear bx by' br bs hd
    obtain ⟨k, M, V, q, rfl, hk, hq, bx, by', br, bs, hd⟩ := hrel
    obtain ⟨b0, b1, b2, -, -, -⟩ := bx.c3
    obtain ⟨c0, c1, c2, g0, g1, g2⟩ := by'.c3
    obtain ⟨r0, r1, r2, f0, f1, f2⟩ := br.c3
    obtain ⟨s0, s1, s2, t0, t1, t2⟩ := bs.c3
    by_cases hgo : k < 3 ∧ L ≠ M
    · obtain ⟨hk3, hLM⟩ := hgo
      have hne : (L != M) = true := by simp [hLM]
      go_wp2_with fail
      with_reducible refine (spec_l11Draw_any _ z _ hd.cur).mono ?_
      rintro e w4 ⟨u, rfl, ⟨M', V', q', rfl, hq'⟩, hd2⟩
      replace bx := hd2.blk bx (by omega)
      replace by' := hd2.blk by' (by omega)
      replace br := hd2.blk br (by omega)
      replace bs := hd2.blk bs (by omega)
      replace hd := hd.trans hd2
      clear hd2 b0 b1 b2 c0 c1 c2 g0 g1 g2 r0 r1 r2 f0 f1 f2 s0 s1 s2 t0 t1 t2
      obtain ⟨c0, c1, c2, g0, g1, g2⟩ := by'.c3
      have hX1 := Blk.past3 (b := Y) bx (by omega) (.int .i64 M') (.int .i64 V') (.string q')
      have hY1 := Blk.put3 by' (.int .i64 M') (.int .i64 V') (.string q')
      have hr1 := Blk.past3 (b := Y) br (by omega) (.int .i64 M') (.int .i64 V') (.string q')
      have hs1 := Blk.past3 (b := Y) bs (by omega) (.int .i64 M') (.int .i64 V') (.string q')
      have hd1 := Drawn.put3 (b := Y) hd (by omega) (.int .i64 M') (.int .i64 V') (.string q')
      clear bx by' br bs hd
      go_wp2
      go_round
      case rel => exact ⟨k + 1, M', V', q', by go_num, by omega, by omega, hX1, hY1, hr1, hs1, hd1⟩
      case measure => simp [intOf]; omega
    · replace hx := hd.toExt hx (by have := HX.out.2.1; omega)
      have hrw : w.heap.size ≤ r := Nat.le_of_eq HX.out.2.1.symm
      have hsw : w.heap.size ≤ r + 1 := by omega
      clear bx by' br bs hd
      by_cases hk3 : k < 3
      · obtain rfl : L = M := Classical.byContradiction fun h => hgo ⟨hk3, h⟩
        clear hgo
        go_wp2
        go_region
        go_wp2
        refine bodyPost_ret (v := .tuple #[.agg #[.int .i64 L, .int .i64 W, .string o], .agg #[.int .i64 L, .int .i64 V, .string q]]) ?_ rfl ⟨_, _, rfl, ⟨_, _, _, rfl, hos⟩, ⟨_, _, _, rfl, hq⟩, ?_⟩
        · simp [results, Tryz.results25, go_sem, r0, r1, r2, s0, s1, s2]
        · exact (((((((hx.setCell (p := ⟨r, 0, none⟩) hrw _).setCell (p := ⟨r, 1, none⟩) hrw _).setCell (p := ⟨r, 2, none⟩) hrw _).setCell (p := ⟨r + 1, 0, none⟩) hsw _).setCell (p := ⟨r + 1, 1, none⟩) hsw _).setCell (p := ⟨r + 1, 2, none⟩) hsw _)).trans (Ext.drew _)
      · clear hgo
        go_wp2
        go_region
        go_wp2
        refine bodyPost_ret (v := .tuple #[.agg #[.int .i64 L, .int .i64 W, .string o], .agg #[.int .i64 M, .int .i64 V, .string q]]) ?_ rfl ⟨_, _, rfl, ⟨_, _, _, rfl, hos⟩, ⟨_, _, _, rfl, hq⟩, ?_⟩
        · simp [results, Tryz.results25, go_sem, r0, r1, r2, s0, s1, s2]
        · exact (((((((hx.setCell (p := ⟨r, 0, none⟩) hrw _).setCell (p := ⟨r, 1, none⟩) hrw _).setCell (p := ⟨r, 2, none⟩) hrw _).setCell (p := ⟨r + 1, 0, none⟩) hsw _).setCell (p := ⟨r + 1, 1, none⟩) hsw _).setCell (p := ⟨r + 1, 2, none⟩) hsw _)).trans (Ext.drew _)

theorem compose_some (L W L' W' : Int) (o o' : ByteArray) (w : World) (ho : o.size ≤ 1048577) (ho' : o'.size ≤ 1048577) :
    Calls Tryz.prog 7 #[.agg #[.int .i64 L, .int .i64 W, .string o], .agg #[.int .i64 L', .int .i64 W', .string o']] w fun e w' => ∃ (M V : Int) (q : ByteArray) (b : Bool), e = .returned (.tuple #[.agg #[.int .i64 M, .int .i64 V, .string q], .bool b]) ∧ q.size ≤ 1048577 ∧ Ext w w' := by
  have hno : ∀ (e : Ending) (w' : World), e = .returned (.tuple #[.agg #[.int .i64 0, .int .i64 0, .string ⟨#[]⟩], .bool false]) ∧ Ext w w' → ∃ (M V : Int) (q : ByteArray) (b : Bool), e = .returned (.tuple #[.agg #[.int .i64 M, .int .i64 V, .string q], .bool b]) ∧ q.size ≤ 1048577 ∧ Ext w w' := by
    rintro e w' ⟨rfl, hx⟩
    exact ⟨_, _, _, _, rfl, by show 0 ≤ 1048577; omega, hx⟩
  cases h : (codeOk L W o && (codeOk L' W' o' && decide (L = L'))) with
  | false => exact (spec_ComposeCodes_no L W L' W' o o' w (by unfold maxLen; omega) (by unfold maxLen; omega) h).mono hno
  | true =>
    simp only [Bool.and_eq_true, decide_eq_true_eq] at h
    obtain ⟨h1, h2, h3⟩ := h
    subst h3
    obtain ⟨K, n, rfl, rfl, hf⟩ := codeFit_of h1
    obtain ⟨K', m, hK, rfl, hf'⟩ := codeFit_of h2
    obtain rfl : K = K' := by omega
    have hn := hf.n1
    have hm := hf'.n1
    cases hw : wideOk K ((n + m - 1 : Nat) : Int) with
    | false => exact (spec_ComposeCodes_wide K n m o o' w h1 h2 hf hf' hw).mono hno
    | true =>
      refine (spec_ComposeCodes_yes K n m (n + m - 1) o o' w h1 h2 hf hf' (by omega) hw).mono ?_
      rintro e w' ⟨rfl, hx⟩
      refine ⟨_, _, _, _, rfl, ?_, hx⟩
      rw [mkS_size, List.length_map, wordsL_length]
      have h4 := (wideOk_yes hw).2.2.2
      rw [pw_nat] at h4
      omega

end Go.Proofs.YtgaeeibcfoppbaaGreatDoor
