/- Contracts: shifts drawn (2): the shift. -/
import Derived.Test.YtfiembmfkokllaaGreatPrsD
namespace Go.Proofs.YtfiembmfkokllaaGreat
open Go.RowKit Go.Cm

/-- a word put into a row of the call's own, nil or not -/
theorem put_any (B : Nat) (v : Value) (x : List UInt8) (l : List (List UInt8)) (w : World) (hown : Own w B 9 v (scells l)) (hB : B ≤ w.heap.size) (hl : l.length ≤ 1000) :
    Calls Tryz.prog 48 #[v, .string (mkS x)] w fun e w' => ∃ q n c, e = .returned (.slice q n c) ∧ Own w' B 9 (.slice q n c) (scells (putR x l)) ∧ ∃ row, w.grownBy w' row ∧ ∀ k, row = some k → B ≤ k := by
  rcases hown.shape with ⟨rfl, hn⟩ | ⟨g, c, rfl, hg, -⟩
  · have : l = [] := by simpa [scells] using hn
    subst this
    exact (spec_l2Put_nil x w).mono (by
      rintro e w' ⟨v, rfl, ho, hx⟩
      obtain ⟨q, c, rfl⟩ := (Own.readsW ho).slice
      exact ⟨q, _, c, rfl, ho.mono hB, none, grown_ext hx none, fun k e => by cases e⟩)
  · rw [scells_length] at hown ⊢
    exact (spec_l2Put_any B g c x l w hown hB hl).mono (by
      rintro e w' ⟨g', c', rfl, ho, hg', -⟩
      exact ⟨_, _, c', rfl, ho, some g, hg', fun k e => by cases e; exact hg⟩)
theorem putR_len (x : List UInt8) : ∀ l : List (List UInt8), (putR x l).length ≤ l.length + 1
  | [] => by simp [putR]
  | y :: l => by
    have := putR_len x l
    unfold putR
    split
    · simp only [List.length_cons]; omega
    · split <;> simp only [List.length_cons] <;> omega
theorem Drawn.row {B z : Nat} {a b c : World} {row : Option Nat} (h : Drawn B z a b) (k : b.grownBy c row) (hr : ∀ x, row = some x → a.heap.size ≤ x) : Drawn B z a c :=
  ⟨h.low, h.lt, grown_past h.grown k hr, h.cur.kept k (fun e => by have := hr z e; have := h.lt; omega) (fun x e => by have := hr x e; have := h.low; have := h.lt; omega)⟩
theorem Drawn.keeps {B z b : Nat} {w w' : World} (h : Drawn B z w w') {E : TypeId} {v : Value} {fs : List Value} (ho : Own w b E v fs) (hz : z < b) : Own w' b E v fs :=
  GB.own h.grown ho (fun k hk e => by have := (World.ownsRow.lt ho k hk).1; have := Option.some.inj e; omega)
theorem grown_keeps {b : Nat} {w w' : World} {r : Nat} (h : w.grownBy w' (some r)) {E : TypeId} {v : Value} {fs : List Value} (ho : Own w b E v fs) (hz : r < b) : Own w' b E v fs :=
  GB.own h ho (fun k hk e => by have := (World.ownsRow.lt ho k hk).1; have := Option.some.inj e; omega)
theorem Blk.d0 {w : World} {b : Nat} {x y : Value} (h : Blk w b #[x, y]) : w.cell? ⟨b, 0, none⟩ = some x := h.cell 0 x rfl
theorem Blk.d1 {w : World} {b : Nat} {x y : Value} (h : Blk w b #[x, y]) : w.cell? ⟨b, 1, none⟩ = some y := h.cell 1 y rfl
theorem text_is (x : ByteArray) : ∃ l : List UInt8, x = mkS l ∧ l.length = x.size := ⟨x.data.toList, (mkS_data_self x).symm, by rw [Array.length_toList]; rfl⟩
theorem draw_two (B z K : Nat) (w : World) (c : Cur B w z) (h1 : 1 ≤ K) (h3 : K ≤ 3) :
    Calls Tryz.prog 92 #[.pointer (some ⟨z, 0, none⟩), .int .i64 K, .int .i64 2] w fun e w'' => ∃ v, e = .returned v ∧ Drawn B z w w'' ∧ StrLe 64000 v w'' :=
  (spec_l2Draw_any B z K 2 w c h1 h3 (by omega)).mono (by rintro e w' ⟨x, rfl, hx, hd⟩; exact ⟨_, rfl, hd, x, rfl, hx⟩)

set_option maxRecDepth 100000 in
set_option maxHeartbeats 4000000 in
theorem spec_l3Draw_any (B z : Nat) (w : World) (c : Cur B w z) :
    Calls Tryz.prog 66 #[.pointer (some ⟨z, 0, none⟩)] w fun e w' => ∃ v, e = .returned v ∧ ShR 1000 w' w.heap.size v ∧ Drawn B z w w' := by
  have hlt := c.lt
  have hd := (Drawn.start c).alloc (.cells #[.int .i64 0, .slice none 0 0] 26)
  have br : Blk (w.alloc (.cells #[.int .i64 0, .slice none 0 0] 26)) w.heap.size #[.int .i64 0, .slice none 0 0] := by (repeat (first | (refine Blk.mk' ?_; (simp; done)) | apply Blk.old))
  go_enter Tryz.func66, Tryz.ntmps66
  go_wp2_with fail
  with_reducible refine (spec_l1Once_any B z _ _ hd.cur).mono ?_
  rintro e w1 ⟨b, rfl, hd2⟩
  replace br := hd2.blk br (by omega)
  replace hd := hd.trans hd2
  clear hd2
  cases b
  · go_wp2_with fail
    with_reducible refine (pickInt_lit (cs := #[.int .i64 1, .int .i64 1, .int .i64 2, .int .i64 0]) hd.cur (l := [1, 1, 2, 0]) rfl (by omega) (by decide) (by omega) (by omega)).mono ?_
    rintro e w2 ⟨x, rfl, hx, hd2⟩
    replace br := hd2.blk br (by omega)
    replace hd := hd.trans hd2
    clear hd2
    obtain ⟨k, rfl, hk⟩ : ∃ k : Nat, x = k ∧ k ≤ 2 := by
      have : x = 1 ∨ x = 2 ∨ x = 0 := by simpa using hx
      exact ⟨x.toNat, by omega, by omega⟩
    clear hx
    have hrX := br.lt
    have bx : Blk (w2.alloc (.cells #[.int .i64 (1 + (k : Int)), .slice none 0 0] 26)) w2.heap.size #[.int .i64 (1 + (k : Int)), .slice none 0 0] := by (repeat (first | (refine Blk.mk' ?_; (simp; done)) | apply Blk.old))
    replace br := br.old (o := .cells #[.int .i64 (1 + (k : Int)), .slice none 0 0] 26)
    replace hd := hd.alloc (.cells #[.int .i64 (1 + (k : Int)), .slice none 0 0] 26)
    obtain ⟨X, hX⟩ : ∃ X, X = w2.heap.size := ⟨_, rfl⟩
    obtain ⟨r, hr⟩ : ∃ r, r = w.heap.size := ⟨_, rfl⟩
    have hXr : r < X := by omega
    have hzr : z < r := by omega
    go_wp2_with fail
    with_reducible refine (spec_l1Below_any B z _ _ hd.cur).mono ?_
    rintro e w3 ⟨y, rfl, hy, -, hd2⟩
    have hy : y < 5 := by have := hy (by omega); omega
    replace br := hd2.blk br (by omega)
    replace bx := hd2.blk bx (by omega)
    replace hd := hd.trans hd2
    clear hd2
    rw [← hX] at bx
    rw [← hr] at br
    rw [← hX, ← hr]
    have HX := Lib.hid (And.intro hX hr)
    obtain ⟨K, hK⟩ : ∃ K : Nat, K = 1 + k := ⟨_, rfl⟩
    have e1 : (1 + (k : Int)) = (K : Int) := by omega
    rw [e1] at bx
    have hK1 : 1 ≤ K := by omega
    have hK3 : K ≤ 3 := by omega
    clear hX hr hrX hlt e1 hK hk
    go_wp2
    go_loopw [6] (fun j wr => ∃ (k : Nat) (q : Option Addr) (m cc : Nat) (F : List (List UInt8)), j = .int .i64 k ∧ k ≤ 5 ∧ F.length + k ≤ 5 ∧ (∀ f ∈ F, f.length ≤ 100000) ∧ Blk wr X #[.int .i64 K, .slice q m cc] ∧ Own wr (X + 1) 9 (.slice q m cc) (scells F) ∧ Blk wr r #[.int .i64 0, .slice none 0 0] ∧ Drawn B z w wr ∧ X < wr.heap.size) (fun j _ => (intOf j).toNat)
    case atStart => exact ⟨y, none, 0, 0, [], rfl, by omega, by simp; omega, by simp, bx, Own.nil _ _ _, br, hd, bx.lt⟩
    case round =>
      obtain ⟨k, q, m, cc, F, rfl, hk, hFk, hF, bx, ho, br, hd, hXw⟩ := hrel
      have x0 := bx.d0
      have x1 := bx.d1
      cases k with
      | zero =>
        have r0 := br.d0
        have r1 := br.d1
        have f0 := br.frozen 0
        have f1 := br.frozen 1
        have HF := Lib.hid (And.intro hF (And.intro ho hd))
        clear hF ho hd
        go_wp2
        have h1 := grown_keeps (grown_store wr ⟨r, 0, none⟩ (.int .i64 K)) HF.out.2.1 (by dsimp only; omega)
        have h2 := grown_keeps (grown_store _ ⟨r, 1, none⟩ (.slice q m cc)) h1 (by dsimp only; omega)
        refine bodyPost_ret (v := .agg #[.int .i64 K, .slice q m cc]) ?_ rfl ⟨_, rfl, ⟨_, _, _, _, F, rfl, h2.mono (by have := HX.out.2; omega), HF.out.1, by omega⟩, (HF.out.2.2.store (p := ⟨r, 0, none⟩) (Nat.le_of_eq HX.out.2.symm) _).store (p := ⟨r, 1, none⟩) (Nat.le_of_eq HX.out.2.symm) _⟩
        simp [results, Tryz.results66, go_sem, r0, r1]
      | succ k =>
        have HF := Lib.hid (And.intro hF ho)
        clear hF ho
        go_wp2
        refine wp_region_invR (R := (drawRel B z)) (by kernel_rfl) (.known ?hx5_40_v0 :: .known ?hx5_40_v1 :: .known ?hx5_40_v2 :: .such (StrLe 64000) (fun _ _ _ _ h => h) :: .known ?hx5_40_v4 :: .such (AbcJ B z 3) (AbcJ.ok _) :: .known ?hx5_40_v6 :: .known ?hx5_40_v7 :: .such (AbcJ B z K) (AbcJ.ok _) :: .such (StrLe 64) (fun _ _ _ _ h => h) :: .such (StrLe 64064) (fun _ _ _ _ h => h) :: .such (StrLe 64064) (fun _ _ _ _ h => h) :: []) rfl (by kernel_rfl) ?hx5_40_s ?hx5_40_p
        case hx5_40_s =>
          intro vs
          refine ⟨fun w' hxw hj => ?_, fun w' hxw hj => ?_, fun w' hxw hj => ?_, fun w' hxw hj => ?_, fun w' hxw hj => ?_, fun w' hxw hj => ?_, fun w' hxw hj => ?_, fun w' hxw hj => ?_, fun w' hxw hj => ?_, fun w' hxw hj => ?_, fun w' hxw hj => ?_, fun w' hxw hj => ?_, trivial⟩
          · have hdw := hxw hd.cur
            have hcw := hdw.cur
            have x0 := Drawn.cell hdw x0 (by dsimp only; omega)
            clear hj hxw
            go_simp
            try go_bits
            refine ⟨Drawn.start hcw, ?_⟩
            rfl
          · have hdw := hxw hd.cur
            have hcw := hdw.cur
            have x0 := Drawn.cell hdw x0 (by dsimp only; omega)
            clear hj hxw
            go_simp
            try go_bits
            refine ⟨Drawn.start hcw, ?_⟩
            rfl
          · have hdw := hxw hd.cur
            have hcw := hdw.cur
            have x0 := Drawn.cell hdw x0 (by dsimp only; omega)
            clear hj hxw
            go_simp
            try go_bits
            refine ⟨Drawn.start hcw, ?_⟩
            rfl
          · have hdw := hxw hd.cur
            have hcw := hdw.cur
            have x0 := Drawn.cell hdw x0 (by dsimp only; omega)
            clear hj hxw
            go_simp
            try go_bits
            exact ⟨Drawn.start hcw, draw_two B z K _ hcw hK1 hK3⟩
          · have hdw := hxw hd.cur
            have hcw := hdw.cur
            have x0 := Drawn.cell hdw x0 (by dsimp only; omega)
            clear hj hxw
            go_simp
            try go_bits
            refine ⟨Drawn.start hcw, ?_⟩
            rfl
          · have hdw := hxw hd.cur
            have hcw := hdw.cur
            have x0 := Drawn.cell hdw x0 (by dsimp only; omega)
            clear hj hxw
            go_simp
            try go_bits
            exact AbcJ.new hcw
          · have hdw := hxw hd.cur
            have hcw := hdw.cur
            have x0 := Drawn.cell hdw x0 (by dsimp only; omega)
            clear hj hxw
            go_simp
            try go_bits
            refine ⟨Drawn.start hcw, ?_⟩
            rfl
          · have hdw := hxw hd.cur
            have hcw := hdw.cur
            have x0 := Drawn.cell hdw x0 (by dsimp only; omega)
            clear hj hxw
            go_simp
            try go_bits
            refine ⟨Drawn.start hcw, ?_⟩
            rfl
          · have hdw := hxw hd.cur
            have hcw := hdw.cur
            have x0 := Drawn.cell hdw x0 (by dsimp only; omega)
            have k5 : AbcJ B z 3 (vs 5) w' := hj 5 (by kernel_rfl)
            apply AbcJ.elim k5
            intro bb hbb hrd
            clear k5
            clear hj hxw
            go_simp
            try go_bits
            rw [if_pos (by omega)]
            exact ⟨Drawn.start hcw, AbcJ.cut hcw (by omega) hrd⟩
          · have hdw := hxw hd.cur
            have hcw := hdw.cur
            have x0 := Drawn.cell hdw x0 (by dsimp only; omega)
            have k8 : AbcJ B z K (vs 8) w' := hj 8 (by kernel_rfl)
            apply AbcJ.elim k8
            intro bb hbb hrd
            clear k8
            clear hj hxw
            go_simp
            try go_bits
            exact ⟨Drawn.start hcw, AbcJ.pick hcw (by omega) (by omega) hrd⟩
          · have hdw := hxw hd.cur
            have hcw := hdw.cur
            have x0 := Drawn.cell hdw x0 (by dsimp only; omega)
            have k3 : StrLe 64000 (vs 3) w' := hj 3 (by kernel_rfl)
            apply StrLe.elim k3
            intro xa hxa hxas
            clear k3
            have k9 : StrLe 64 (vs 9) w' := hj 9 (by kernel_rfl)
            apply StrLe.elim k9
            intro xb hxb hxbs
            clear k9
            clear hj hxw
            go_simp
            try go_bits
            rw [if_neg (by omega)]
            exact ⟨Drawn.start hcw, _, rfl, by rw [ByteArray.size_append]; omega⟩
          · have hdw := hxw hd.cur
            have hcw := hdw.cur
            have x0 := Drawn.cell hdw x0 (by dsimp only; omega)
            have k10 : StrLe 64064 (vs 10) w' := hj 10 (by kernel_rfl)
            clear hj hxw
            go_simp
            try go_bits
            exact Drawn.start hcw
        case' hx5_40_p =>
          intro vs w5 hx5 hk
          replace hx5 := hx5 hd.cur
          have k3 : (StrLe 64000) (vs 3) w5 := hk 3 _ rfl
          have k5 : (AbcJ B z 3) (vs 5) w5 := hk 5 _ rfl
          have k8 : (AbcJ B z K) (vs 8) w5 := hk 8 _ rfl
          have k9 : (StrLe 64) (vs 9) w5 := hk 9 _ rfl
          have k10 : (StrLe 64064) (vs 10) w5 := hk 10 _ rfl
          have k11 : (StrLe 64064) (vs 11) w5 := hk 11 _ rfl
          clear hk
          replace x0 := Drawn.cell hx5 x0 (by dsimp only; omega)
          go_simp
        obtain ⟨x, hx, hxs⟩ := k11
        rw [hx]
        clear k3 k5 k8 k9 k10 hx
        obtain ⟨xs, rfl, hxl⟩ := text_is x
        have hxl2 : xs.length ≤ 100000 := by omega
        replace bx := hx5.blk bx (by omega)
        replace br := hx5.blk br (by omega)
        have ho5 := hx5.keeps HF.out.2 (by omega)
        have hXw5 : X < w5.heap.size := bx.lt
        replace hd := hd.trans hx5
        have x0 := bx.d0
        have x1 := bx.d1
        have hp := put_any (X + 1) (.slice q m cc) xs F w5 ho5 (by omega) (by omega)
        have HF2 := Lib.hid (And.intro HF.out.1 (And.intro hp hxl2))
        clear HF hp hx5 ho5 hxs hxl hxl2
        go_wp2_with fail
        with_reducible refine HF2.out.2.1.mono ?_
        rintro e w6 ⟨q', m', c', rfl, ho6, row, hg, hrow⟩
        replace bx := GB.blk hg bx (fun e => by have := hrow X e; omega)
        replace br := GB.blk hg br (fun e => by have := hrow r e; omega)
        replace hd := hd.row hg (fun k e => by have := hrow k e; have := HX.out.2; omega)
        have HO := Lib.hid ho6
        clear ho6 hg hrow x0 x1
        have x0 := bx.d0
        have x1 := bx.d1
        have f1 := bx.frozen 1
        go_wp2
        go_round
        case rel =>
          have hpl := putR_len xs F
          refine ⟨k, q', m', c', putR xs F, by go_num, by omega, by omega, fun f hf => ?_, ?_, grown_keeps (grown_store w6 ⟨X, 1, none⟩ _) HO.out (by dsimp only; omega), br.other (by omega) _, hd.store (p := ⟨X, 1, none⟩) (by have := HX.out.2; show w.heap.size ≤ X; omega) _, ?_⟩
          · rcases putR_mem hf with rfl | hf
            · exact HF2.out.2.2
            · exact HF2.out.1 f hf
          · have := bx.set (i := 1) (by simp) (.slice q' m' c')
            simpa using this
          · have := bx.lt
            simpa [World.setCell] using this
        case measure => simp [intOf]
  · go_wp2_with fail
    with_reducible refine (pick_ok hd.cur (by kernel_rfl) (by omega) (by omega)).mono ?_
    rintro e w2 ⟨x, rfl, hx, hd2⟩
    replace br := hd2.blk br (by omega)
    replace hd := hd.trans hd2
    clear hd2
    obtain ⟨xs, rfl, hxl⟩ := text_is x
    go_wp2_with fail
    with_reducible refine (spec_ParseShift_any xs _ (by omega)).mono ?_
    rintro e w3 ⟨v, b, rfl, ⟨L, q, n, cc, F, rfl, ho, hf, hn⟩, hx3⟩
    have hrw := br.lt
    replace br := br.ext hx3
    replace hd := hd.ext hx3
    replace br := br.old (o := .cells #[.int .i64 L, .slice q n cc] 26)
    replace hd := hd.alloc (.cells #[.int .i64 L, .slice q n cc] 26)
    have bx : Blk (w3.alloc (.cells #[.int .i64 L, .slice q n cc] 26)) w3.heap.size #[.int .i64 L, .slice q n cc] := by (repeat (first | (refine Blk.mk' ?_; (simp; done)) | apply Blk.old))
    have ho3 := ho.ext (Ext.alloc w3 (.cells #[.int .i64 L, .slice q n cc] 26))
    have x0 := bx.d0
    have x1 := bx.d1
    have r0 := br.d0
    have r1 := br.d1
    have f0 := br.frozen 0
    have f1 := br.frozen 1
    have HF := Lib.hid (And.intro ho3 (And.intro hf (And.intro hn hd)))
    clear ho ho3 hf hn hd bx br hx hxl
    go_wp2
    have h1 := grown_keeps (grown_store _ ⟨w.heap.size, 0, none⟩ (.int .i64 L)) HF.out.1 (by dsimp only; omega)
    have h2 := grown_keeps (grown_store _ ⟨w.heap.size, 1, none⟩ (.slice q n cc)) h1 (by dsimp only; omega)
    refine bodyPost_ret (v := .agg #[.int .i64 L, .slice q n cc]) ?_ rfl ⟨_, rfl, ⟨_, _, _, _, F, rfl, h2.mono (by omega), HF.out.2.1, HF.out.2.2.1⟩, (HF.out.2.2.2.store (p := ⟨w.heap.size, 0, none⟩) (Nat.le_refl _) _).store (p := ⟨w.heap.size, 1, none⟩) (Nat.le_refl _) _⟩
    simp [results, Tryz.results66, go_sem, r0, r1]
end Go.Proofs.YtfiembmfkokllaaGreat
