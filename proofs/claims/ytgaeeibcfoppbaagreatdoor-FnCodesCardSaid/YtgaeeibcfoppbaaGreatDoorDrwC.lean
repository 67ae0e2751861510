/- Contracts: codes drawn: some code of bounded length. -/
import Derived.Test.YtgaeeibcfoppbaaGreatDoorPkR
import Derived.Test.YtgaeeibcfoppbaaGreatDoorPkP
namespace Go.Proofs.YtgaeeibcfoppbaaGreatDoor
open Go.RowKit Go.Cm

/-- what a drawn code is -/
def CodeV (n : Nat) (v : Value) : Prop := ∃ (L W : Int) (o : ByteArray), v = .agg #[.int .i64 L, .int .i64 W, .string o] ∧ o.size ≤ n

theorem parse_bytes (x : ByteArray) (w : World) (hx : x.size ≤ 1048576) :
    Calls Tryz.prog 16 #[.string x] w fun e w' => ∃ (L W : Int) (o : ByteArray) (b : Bool), e = .returned (.tuple #[.agg #[.int .i64 L, .int .i64 W, .string o], .bool b]) ∧ o.size ≤ 1048576 ∧ Ext w w' := by
  have h := spec_ParseCode_any x.data.toList w (by rw [Array.length_toList]; exact hx)
  rw [mkS_data_self] at h
  refine h.mono ?_
  rintro e w' (⟨k, n, o, -, rfl, ho, hx⟩ | ⟨-, rfl, hx⟩)
  · exact ⟨_, _, _, _, rfl, ho, hx⟩
  · exact ⟨_, _, _, _, rfl, by show 0 ≤ 1048576; omega, hx⟩

/-- a literal of texts, laid by the region itself -/
def LitJ (B z : Nat) (l : List ByteArray) (n cap : Nat) (v : Value) (w : World) : Prop := Cur B w z ∧ ∃ b, v = .slice (some ⟨b, 0, none⟩) n cap ∧ ∀ w', Drawn B z w w' → Reads w' v (l.map .string)
theorem LitJ.ok {B z : Nat} (l : List ByteArray) (n cap : Nat) (v : Value) (w w' : World) (h : (drawRel B z).r w w') (k : LitJ B z l n cap v w) : LitJ B z l n cap v w' := by
  obtain ⟨c, b, hv, hr⟩ := k
  have hd : Drawn B z w w' := h c
  exact ⟨hd.cur, b, hv, fun w'' h' => hr w'' (hd.trans h')⟩
theorem LitJ.elim {B z : Nat} {l : List ByteArray} {n cap : Nat} {v : Value} {w : World} (h : LitJ B z l n cap v w) {C : Prop} (k : ∀ b, v = .slice (some ⟨b, 0, none⟩) n cap → (∀ w', Drawn B z w w' → Reads w' (.slice (some ⟨b, 0, none⟩) n cap) (l.map .string)) → C) : C := by
  obtain ⟨c, b, hv, hr⟩ := h
  exact k b hv (fun w' hd => hv ▸ hr w' hd)
theorem LitJ.new {B z : Nat} {w : World} {t : TypeId} {cs : Array Value} {l : List ByteArray} {n : Nat} (c : Cur B w z) (h : strsOf cs.toList = some l) (hn : n = l.length) (hm : n ≤ 1000) : Drawn B z w (w.alloc (.cells cs t)) ∧ LitJ B z l n n (.slice (some ⟨w.heap.size, 0, none⟩) n n) (w.alloc (.cells cs t)) := by
  refine ⟨(Drawn.start c).alloc _, c.ext (Ext.alloc _ _), _, rfl, fun w' hd => ?_⟩
  have h1 := lit_reads c (strsOf_map h) (n := n) (cap := n) (by rw [List.length_map]; omega) (Nat.le_refl _) hm w' hd
  rwa [List.take_of_length_le (by rw [List.length_map]; omega)] at h1
theorem LitJ.cut {B z : Nat} {w : World} {l : List ByteArray} {n m cap b : Nat} (c : Cur B w z) (hm : m ≤ n) (hn : n = l.length) (h : ∀ w', Drawn B z w w' → Reads w' (.slice (some ⟨b, 0, none⟩) n cap) (l.map .string)) : LitJ B z (l.take m) m cap (.slice (some ⟨b, 0, none⟩) m cap) w := by
  refine ⟨c, _, rfl, fun w' hd => ?_⟩
  obtain ⟨a, cap', hv, h1, h2, h3⟩ := h w' hd
  have hl : ((l.take m).map Value.string).length = m := by simp; omega
  have hl' : (l.map Value.string).length = n := by simp; omega
  simp only [hl', Value.slice.injEq] at hv
  obtain ⟨rfl, -, rfl⟩ := hv
  refine ⟨_, _, by rw [hl], by omega, h2, fun i hi => ?_⟩
  obtain ⟨b', o', h4, h5⟩ := h3 i (by omega)
  exact ⟨b', o', h4, by rw [h5]; simp⟩

/-- the three letters as texts -/
def abcL : List ByteArray := [⟨#[97]⟩, ⟨#[98]⟩, ⟨#[99]⟩]
theorem abc_len {x : ByteArray} (h : x ∈ abcL) : x.size ≤ 64 := by
  have h1 : ∀ x ∈ abcL, x.size ≤ 64 := by decide
  exact h1 x h
/-- the first of them, in a literal -/
def AbcJ (B z m : Nat) (v : Value) (w : World) : Prop := LitJ B z (abcL.take m) m 3 v w
theorem AbcJ.ok {B z : Nat} (m : Nat) (v : Value) (w w' : World) (h : (drawRel B z).r w w') (k : AbcJ B z m v w) : AbcJ B z m v w' := LitJ.ok _ _ _ v w w' h k
theorem AbcJ.elim {B z m : Nat} {v : Value} {w : World} (h : AbcJ B z m v w) {C : Prop} (k : ∀ b, v = .slice (some ⟨b, 0, none⟩) m 3 → (∀ w', Drawn B z w w' → Reads w' (.slice (some ⟨b, 0, none⟩) m 3) ((abcL.take m).map .string)) → C) : C := LitJ.elim h k
theorem AbcJ.new {B z : Nat} {w : World} {t : TypeId} (c : Cur B w z) : Drawn B z w (w.alloc (.cells #[.string ⟨#[97]⟩, .string ⟨#[98]⟩, .string ⟨#[99]⟩] t)) ∧ AbcJ B z 3 (.slice (some ⟨w.heap.size, 0, none⟩) 3 3) (w.alloc (.cells #[.string ⟨#[97]⟩, .string ⟨#[98]⟩, .string ⟨#[99]⟩] t)) := LitJ.new (l := abcL) c rfl rfl (by omega)
theorem AbcJ.cut {B z m b : Nat} {w : World} (c : Cur B w z) (hm : m ≤ 3) (h : ∀ w', Drawn B z w w' → Reads w' (.slice (some ⟨b, 0, none⟩) 3 3) ((abcL.take 3).map .string)) : AbcJ B z m (.slice (some ⟨b, 0, none⟩) m 3) w := LitJ.cut (l := abcL) c hm rfl h
theorem AbcJ.pick {B z m b : Nat} {w : World} (c : Cur B w z) (hm0 : 0 < m) (hm : m ≤ 3) (h : ∀ w', Drawn B z w w' → Reads w' (.slice (some ⟨b, 0, none⟩) m 3) ((abcL.take m).map .string)) :
    Calls Tryz.prog 62 #[.pointer (some ⟨z, 0, none⟩), .slice (some ⟨b, 0, none⟩) m 3] w fun e w'' => ∃ v, e = .returned v ∧ Drawn B z w w'' ∧ StrLe 64 v w'' :=
  (spec_l1Pick_any B z _ _ _ c (by rw [List.length_take]; show 0 < min m 3; omega) h).mono (by rintro e w'' ⟨x, rfl, hm, hd'⟩; exact ⟨_, rfl, hd', x, rfl, abc_len (List.mem_of_mem_take hm)⟩)
theorem pw_27 {k n : Int} (h0 : 0 ≤ k) (h3 : k ≤ 3) (hn : 0 ≤ n) (hn3 : n ≤ 3) : ∃ m : Nat, pw k n = m ∧ m ≤ 27 := by
  obtain ⟨j, rfl⟩ := Int.eq_ofNat_of_zero_le hn
  have h1 := pw_nonneg h0 j
  have h2 := pw_le h0 h3 j
  have h4 : (3 : Nat) ^ j ≤ 3 ^ 3 := Nat.pow_le_pow_right (by omega) (by omega)
  have h5 : (3 : Int) ^ j = ((3 ^ j : Nat) : Int) := by simp
  exact ⟨(pw k j).toNat, by omega, by omega⟩

set_option maxRecDepth 100000 in
set_option maxHeartbeats 4000000 in
theorem spec_l11Draw_any (B z : Nat) (w : World) (c : Cur B w z) :
    Calls Tryz.prog 40 #[.pointer (some ⟨z, 0, none⟩)] w fun e w' => ∃ v, e = .returned v ∧ CodeV 1048576 v ∧ Drawn B z w w' := by
  have hlt := c.lt
  have hd := (Drawn.start c).alloc (.cells #[.int .i64 0, .int .i64 0, .string ⟨#[]⟩] 25)
  have br : Blk (w.alloc (.cells #[.int .i64 0, .int .i64 0, .string ⟨#[]⟩] 25)) w.heap.size #[.int .i64 0, .int .i64 0, .string ⟨#[]⟩] := by (repeat (first | (refine Blk.mk' ?_; (simp; done)) | apply Blk.old))
  go_enter Tryz.func40, Tryz.ntmps40
  go_wp2_with fail
  with_reducible refine (spec_l1Once_any B z _ _ hd.cur).mono ?_
  rintro e w1 ⟨b, rfl, hd2⟩
  replace br := hd2.blk br (by omega)
  replace hd := hd.trans hd2
  clear hd2
  cases b
  · go_wp2_with fail
    with_reducible refine (spec_l1Below_any B z _ _ hd.cur).mono ?_
    rintro e w2 ⟨y, rfl, hy, -, hd2⟩
    replace br := hd2.blk br (by omega)
    replace hd := hd.trans hd2
    have hy : y < 3 := by have := hy (by omega); omega
    clear hd2
    have hrX := br.lt
    have bx : Blk (w2.alloc (.cells #[.int .i64 2, .int .i64 (1 + (y : Int)), .string ⟨#[]⟩] 25)) w2.heap.size #[.int .i64 2, .int .i64 (1 + (y : Int)), .string ⟨#[]⟩] := by (repeat (first | (refine Blk.mk' ?_; (simp; done)) | apply Blk.old))
    replace br := br.old (o := .cells #[.int .i64 2, .int .i64 (1 + (y : Int)), .string ⟨#[]⟩] 25)
    replace hd := hd.alloc (.cells #[.int .i64 2, .int .i64 (1 + (y : Int)), .string ⟨#[]⟩] 25)
    obtain ⟨X, hX⟩ : ∃ X, X = w2.heap.size := ⟨_, rfl⟩
    obtain ⟨r, hr⟩ : ∃ r, r = w.heap.size := ⟨_, rfl⟩
    have hXr : r < X := by omega
    have hzr : z < r := by omega
    go_wp2_with fail
    with_reducible refine (spec_l1Once_any B z _ _ hd.cur).mono ?_
    rintro e w3 ⟨b, rfl, hd2⟩
    replace br := hd2.blk br (by omega)
    replace bx := hd2.blk bx (by omega)
    replace hd := hd.trans hd2
    clear hd2
    rw [← hX] at bx
    rw [← hr] at br
    rw [← hX, ← hr]
    have HX := Lib.hid (And.intro hX hr)
    clear hX hr hrX hlt
    cases b
    · have hy2 : (2 : Int) ≤ 3 := by omega
      obtain ⟨m, hm, hm27⟩ := pw_27 (k := 2) (n := (1 + (y : Int))) (by omega) (by omega) (by omega) (by omega)
      have hpw := fun w => spec_l11Power_any 2 (1 + (y : Int)) w (by omega) (by omega) (by omega) (by omega)
      rw [hm] at hpw
      obtain ⟨b0, b1, b2, g0, g1, g2⟩ := bx.c3
      go_wp2_with fail
      with_reducible refine (hpw _).mono ?_
      rintro e w9 ⟨rfl, rfl⟩
      clear b0 b1 b2 g0 g1 g2 hpw hm
      go_wp2
      go_loopw [6] (fun j wr => ∃ (k : Nat) (o : ByteArray), j = .int .i64 k ∧ k ≤ 27 ∧ o.size + 64 * k ≤ 2000 ∧ Blk wr X #[.int .i64 2, .int .i64 (1 + (y : Int)), .string o] ∧ Blk wr r #[.int .i64 0, .int .i64 0, .string ⟨#[]⟩] ∧ Drawn B z w wr) (fun j _ => (intOf j).toNat)
      case atStart => exact ⟨m, _, rfl, hm27, by show 0 + 64 * m ≤ 2000; omega, bx, br, hd⟩
      case round =>
        obtain ⟨k, o, rfl, hk, ho, bx, br, hd⟩ := hrel
        obtain ⟨b0, b1, b2, g0, g1, g2⟩ := bx.c3
        cases k with
        | zero =>
          obtain ⟨r0, r1, r2, f0, f1, f2⟩ := br.c3
          go_wp2
          refine bodyPost_ret (v := .agg #[.int .i64 2, .int .i64 (1 + (y : Int)), .string o]) ?_ rfl ⟨_, rfl, ⟨_, _, o, rfl, by omega⟩, ((hd.store (Nat.le_of_eq HX.out.2.symm) _).store (Nat.le_of_eq HX.out.2.symm) _).store (Nat.le_of_eq HX.out.2.symm) _⟩
          simp [results, Tryz.results40, go_sem, r0, r1, r2]
        | succ k =>
          go_wp2
          refine wp_region_tailR (R := (drawRel B z)) (by kernel_rfl) 10 (.known ?hx5_9_v0 :: .known ?hx5_9_v1 :: .known ?hx5_9_v2 :: .such (AbcJ B z 3) (AbcJ.ok _) :: .known ?hx5_9_v4 :: .known ?hx5_9_v5 :: .such (AbcJ B z 2) (AbcJ.ok _) :: .such (StrLe 64) (fun _ _ _ _ h => h) :: .such (StrLe (o.size + 64)) (fun _ _ _ _ h => h) :: .known ?hx5_9_v9 :: []) rfl (by decide) (by kernel_rfl) (by kernel_rfl) ?hx5_9_s ?hx5_9_p
          case hx5_9_s =>
            intro vs
            refine ⟨fun w' hxw hj => ?_, fun w' hxw hj => ?_, fun w' hxw hj => ?_, fun w' hxw hj => ?_, fun w' hxw hj => ?_, fun w' hxw hj => ?_, fun w' hxw hj => ?_, fun w' hxw hj => ?_, fun w' hxw hj => ?_, fun w' hxw hj => ?_, trivial⟩
            · have hdw := hxw hd.cur
              have hcw := hdw.cur
              have b0 := Drawn.cell hdw b0 (by dsimp only; omega)
              have b2 := Drawn.cell hdw b2 (by dsimp only; omega)
              clear hj hxw
              go_simp
              try go_bits
              refine ⟨Drawn.start hcw, ?_⟩
              rfl
            · have hdw := hxw hd.cur
              have hcw := hdw.cur
              have b0 := Drawn.cell hdw b0 (by dsimp only; omega)
              have b2 := Drawn.cell hdw b2 (by dsimp only; omega)
              clear hj hxw
              go_simp
              try go_bits
              refine ⟨Drawn.start hcw, ?_⟩
              rfl
            · have hdw := hxw hd.cur
              have hcw := hdw.cur
              have b0 := Drawn.cell hdw b0 (by dsimp only; omega)
              have b2 := Drawn.cell hdw b2 (by dsimp only; omega)
              clear hj hxw
              go_simp
              try go_bits
              refine ⟨Drawn.start hcw, ?_⟩
              rfl
            · have hdw := hxw hd.cur
              have hcw := hdw.cur
              have b0 := Drawn.cell hdw b0 (by dsimp only; omega)
              have b2 := Drawn.cell hdw b2 (by dsimp only; omega)
              clear hj hxw
              go_simp
              try go_bits
              exact AbcJ.new hcw
            · have hdw := hxw hd.cur
              have hcw := hdw.cur
              have b0 := Drawn.cell hdw b0 (by dsimp only; omega)
              have b2 := Drawn.cell hdw b2 (by dsimp only; omega)
              clear hj hxw
              go_simp
              try go_bits
              refine ⟨Drawn.start hcw, ?_⟩
              rfl
            · have hdw := hxw hd.cur
              have hcw := hdw.cur
              have b0 := Drawn.cell hdw b0 (by dsimp only; omega)
              have b2 := Drawn.cell hdw b2 (by dsimp only; omega)
              clear hj hxw
              go_simp
              try go_bits
              refine ⟨Drawn.start hcw, ?_⟩
              rfl
            · have hdw := hxw hd.cur
              have hcw := hdw.cur
              have b0 := Drawn.cell hdw b0 (by dsimp only; omega)
              have b2 := Drawn.cell hdw b2 (by dsimp only; omega)
              have k3 : AbcJ B z 3 (vs 3) w' := hj 3 (by kernel_rfl)
              apply AbcJ.elim k3
              intro bb hbb hrd
              clear k3
              clear hj hxw
              go_simp
              try go_bits
              exact ⟨Drawn.start hcw, AbcJ.cut hcw (by omega) hrd⟩
            · have hdw := hxw hd.cur
              have hcw := hdw.cur
              have b0 := Drawn.cell hdw b0 (by dsimp only; omega)
              have b2 := Drawn.cell hdw b2 (by dsimp only; omega)
              have k6 : AbcJ B z 2 (vs 6) w' := hj 6 (by kernel_rfl)
              apply AbcJ.elim k6
              intro bb hbb hrd
              clear k6
              clear hj hxw
              go_simp
              try go_bits
              exact ⟨Drawn.start hcw, AbcJ.pick hcw (by omega) (by omega) hrd⟩
            · have hdw := hxw hd.cur
              have hcw := hdw.cur
              have b0 := Drawn.cell hdw b0 (by dsimp only; omega)
              have b2 := Drawn.cell hdw b2 (by dsimp only; omega)
              have k7 : StrLe 64 (vs 7) w' := hj 7 (by kernel_rfl)
              apply StrLe.elim k7
              intro x hx hxs
              clear k7
              clear hj hxw
              go_simp
              try go_bits
              rw [if_neg (by omega)]
              exact ⟨Drawn.start hcw, _, rfl, by rw [ByteArray.size_append]; omega⟩
            · have hdw := hxw hd.cur
              have hcw := hdw.cur
              have b0 := Drawn.cell hdw b0 (by dsimp only; omega)
              have b2 := Drawn.cell hdw b2 (by dsimp only; omega)
              clear hj hxw
              go_simp
              try go_bits
              refine ⟨Drawn.start hcw, ?_⟩
              rfl
          case' hx5_9_p =>
            intro vs w5 hx5 hk
            replace hx5 := hx5 hd.cur
            have k3 : (AbcJ B z 3) (vs 3) w5 := hk 3 _ rfl
            have k6 : (AbcJ B z 2) (vs 6) w5 := hk 6 _ rfl
            have k7 : (StrLe 64) (vs 7) w5 := hk 7 _ rfl
            have k8 : (StrLe (o.size + 64)) (vs 8) w5 := hk 8 _ rfl
            clear hk
            replace b0 := Drawn.cell hx5 b0 (by dsimp only; omega)
            replace b2 := Drawn.cell hx5 b2 (by dsimp only; omega)
            go_simp
          obtain ⟨x, hx, hxs⟩ := k8
          rw [hx]
          clear k3 k6 k7 hx
          replace bx := hx5.blk bx (by omega)
          replace br := hx5.blk br (by omega)
          replace hd := hd.trans hx5
          obtain ⟨b0, b1, b2, g0, g1, g2⟩ := bx.c3
          go_wp2
          go_round
          case rel =>
            refine ⟨k, x, by go_num, by omega, by omega, ?_, br.other (by omega) _, hd.store (by have := HX.out.2; show w.heap.size ≤ X; omega) _⟩
            have := bx.set (i := 2) (by simp) (.string x)
            simpa using this
          case measure => simp [intOf]
    · obtain ⟨b0, b1, b2, g0, g1, g2⟩ := bx.c3
      go_wp2_with fail
      have hd2 := hd.store (p := ⟨X, 0, none⟩) (by have := HX.out.2; show w.heap.size ≤ X; omega) (.int .i64 3)
      have bx2 : Blk (w3.setCell ⟨X, 0, none⟩ (.int .i64 3)) X #[.int .i64 3, .int .i64 (1 + (y : Int)), .string ⟨#[]⟩] := by
        have := bx.set (i := 0) (by simp) (.int .i64 3)
        simpa using this
      replace br := br.other (b' := X) (i := 0) (by omega) (.int .i64 3)
      clear bx hd b0 b1 b2 g0 g1 g2
      have hd := hd2
      have bx := bx2
      clear hd2 bx2
      with_reducible refine (spec_l1Below_any B z _ _ hd.cur).mono ?_
      rintro e w4 ⟨y', rfl, hy', -, hd2⟩
      replace br := hd2.blk br (by omega)
      replace bx := hd2.blk bx (by omega)
      replace hd := hd.trans hd2
      have hy' : y' < 2 := by have := hy' (by omega); omega
      clear hd2
      obtain ⟨b0, b1, b2, g0, g1, g2⟩ := bx.c3
      go_wp2_with fail
      have hd2 := hd.store (p := ⟨X, 1, none⟩) (by have := HX.out.2; show w.heap.size ≤ X; omega) (.int .i64 (1 + (y' : Int)))
      have bx2 : Blk (w4.setCell ⟨X, 1, none⟩ (.int .i64 (1 + (y' : Int)))) X #[.int .i64 3, .int .i64 (1 + (y' : Int)), .string ⟨#[]⟩] := by
        have := bx.set (i := 1) (by simp) (.int .i64 (1 + (y' : Int)))
        simpa using this
      replace br := br.other (b' := X) (i := 1) (by omega) (.int .i64 (1 + (y' : Int)))
      clear bx hd b0 b1 b2 g0 g1 g2
      have hd := hd2
      have bx := bx2
      clear hd2 bx2
      obtain ⟨m, hm, hm27⟩ := pw_27 (k := 3) (n := (1 + (y' : Int))) (by omega) (by omega) (by omega) (by omega)
      have hpw := fun w => spec_l11Power_any 3 (1 + (y' : Int)) w (by omega) (by omega) (by omega) (by omega)
      rw [hm] at hpw
      obtain ⟨b0, b1, b2, g0, g1, g2⟩ := bx.c3
      go_wp2_with fail
      with_reducible refine (hpw _).mono ?_
      rintro e w9 ⟨rfl, rfl⟩
      clear b0 b1 b2 g0 g1 g2 hpw hm
      go_wp2
      go_loopw [6] (fun j wr => ∃ (k : Nat) (o : ByteArray), j = .int .i64 k ∧ k ≤ 27 ∧ o.size + 64 * k ≤ 2000 ∧ Blk wr X #[.int .i64 3, .int .i64 (1 + (y' : Int)), .string o] ∧ Blk wr r #[.int .i64 0, .int .i64 0, .string ⟨#[]⟩] ∧ Drawn B z w wr) (fun j _ => (intOf j).toNat)
      case atStart => exact ⟨m, _, rfl, hm27, by show 0 + 64 * m ≤ 2000; omega, bx, br, hd⟩
      case round =>
        obtain ⟨k, o, rfl, hk, ho, bx, br, hd⟩ := hrel
        obtain ⟨b0, b1, b2, g0, g1, g2⟩ := bx.c3
        cases k with
        | zero =>
          obtain ⟨r0, r1, r2, f0, f1, f2⟩ := br.c3
          go_wp2
          refine bodyPost_ret (v := .agg #[.int .i64 3, .int .i64 (1 + (y' : Int)), .string o]) ?_ rfl ⟨_, rfl, ⟨_, _, o, rfl, by omega⟩, ((hd.store (Nat.le_of_eq HX.out.2.symm) _).store (Nat.le_of_eq HX.out.2.symm) _).store (Nat.le_of_eq HX.out.2.symm) _⟩
          simp [results, Tryz.results40, go_sem, r0, r1, r2]
        | succ k =>
          go_wp2
          refine wp_region_tailR (R := (drawRel B z)) (by kernel_rfl) 10 (.known ?hx5_10_v0 :: .known ?hx5_10_v1 :: .known ?hx5_10_v2 :: .such (AbcJ B z 3) (AbcJ.ok _) :: .known ?hx5_10_v4 :: .known ?hx5_10_v5 :: .such (AbcJ B z 3) (AbcJ.ok _) :: .such (StrLe 64) (fun _ _ _ _ h => h) :: .such (StrLe (o.size + 64)) (fun _ _ _ _ h => h) :: .known ?hx5_10_v9 :: []) rfl (by decide) (by kernel_rfl) (by kernel_rfl) ?hx5_10_s ?hx5_10_p
          case hx5_10_s =>
            intro vs
            refine ⟨fun w' hxw hj => ?_, fun w' hxw hj => ?_, fun w' hxw hj => ?_, fun w' hxw hj => ?_, fun w' hxw hj => ?_, fun w' hxw hj => ?_, fun w' hxw hj => ?_, fun w' hxw hj => ?_, fun w' hxw hj => ?_, fun w' hxw hj => ?_, trivial⟩
            · have hdw := hxw hd.cur
              have hcw := hdw.cur
              have b0 := Drawn.cell hdw b0 (by dsimp only; omega)
              have b2 := Drawn.cell hdw b2 (by dsimp only; omega)
              clear hj hxw
              go_simp
              try go_bits
              refine ⟨Drawn.start hcw, ?_⟩
              rfl
            · have hdw := hxw hd.cur
              have hcw := hdw.cur
              have b0 := Drawn.cell hdw b0 (by dsimp only; omega)
              have b2 := Drawn.cell hdw b2 (by dsimp only; omega)
              clear hj hxw
              go_simp
              try go_bits
              refine ⟨Drawn.start hcw, ?_⟩
              rfl
            · have hdw := hxw hd.cur
              have hcw := hdw.cur
              have b0 := Drawn.cell hdw b0 (by dsimp only; omega)
              have b2 := Drawn.cell hdw b2 (by dsimp only; omega)
              clear hj hxw
              go_simp
              try go_bits
              refine ⟨Drawn.start hcw, ?_⟩
              rfl
            · have hdw := hxw hd.cur
              have hcw := hdw.cur
              have b0 := Drawn.cell hdw b0 (by dsimp only; omega)
              have b2 := Drawn.cell hdw b2 (by dsimp only; omega)
              clear hj hxw
              go_simp
              try go_bits
              exact AbcJ.new hcw
            · have hdw := hxw hd.cur
              have hcw := hdw.cur
              have b0 := Drawn.cell hdw b0 (by dsimp only; omega)
              have b2 := Drawn.cell hdw b2 (by dsimp only; omega)
              clear hj hxw
              go_simp
              try go_bits
              refine ⟨Drawn.start hcw, ?_⟩
              rfl
            · have hdw := hxw hd.cur
              have hcw := hdw.cur
              have b0 := Drawn.cell hdw b0 (by dsimp only; omega)
              have b2 := Drawn.cell hdw b2 (by dsimp only; omega)
              clear hj hxw
              go_simp
              try go_bits
              refine ⟨Drawn.start hcw, ?_⟩
              rfl
            · have hdw := hxw hd.cur
              have hcw := hdw.cur
              have b0 := Drawn.cell hdw b0 (by dsimp only; omega)
              have b2 := Drawn.cell hdw b2 (by dsimp only; omega)
              have k3 : AbcJ B z 3 (vs 3) w' := hj 3 (by kernel_rfl)
              apply AbcJ.elim k3
              intro bb hbb hrd
              clear k3
              clear hj hxw
              go_simp
              try go_bits
              exact ⟨Drawn.start hcw, AbcJ.cut hcw (by omega) hrd⟩
            · have hdw := hxw hd.cur
              have hcw := hdw.cur
              have b0 := Drawn.cell hdw b0 (by dsimp only; omega)
              have b2 := Drawn.cell hdw b2 (by dsimp only; omega)
              have k6 : AbcJ B z 3 (vs 6) w' := hj 6 (by kernel_rfl)
              apply AbcJ.elim k6
              intro bb hbb hrd
              clear k6
              clear hj hxw
              go_simp
              try go_bits
              exact ⟨Drawn.start hcw, AbcJ.pick hcw (by omega) (by omega) hrd⟩
            · have hdw := hxw hd.cur
              have hcw := hdw.cur
              have b0 := Drawn.cell hdw b0 (by dsimp only; omega)
              have b2 := Drawn.cell hdw b2 (by dsimp only; omega)
              have k7 : StrLe 64 (vs 7) w' := hj 7 (by kernel_rfl)
              apply StrLe.elim k7
              intro x hx hxs
              clear k7
              clear hj hxw
              go_simp
              try go_bits
              rw [if_neg (by omega)]
              exact ⟨Drawn.start hcw, _, rfl, by rw [ByteArray.size_append]; omega⟩
            · have hdw := hxw hd.cur
              have hcw := hdw.cur
              have b0 := Drawn.cell hdw b0 (by dsimp only; omega)
              have b2 := Drawn.cell hdw b2 (by dsimp only; omega)
              clear hj hxw
              go_simp
              try go_bits
              refine ⟨Drawn.start hcw, ?_⟩
              rfl
          case' hx5_10_p =>
            intro vs w5 hx5 hk
            replace hx5 := hx5 hd.cur
            have k3 : (AbcJ B z 3) (vs 3) w5 := hk 3 _ rfl
            have k6 : (AbcJ B z 3) (vs 6) w5 := hk 6 _ rfl
            have k7 : (StrLe 64) (vs 7) w5 := hk 7 _ rfl
            have k8 : (StrLe (o.size + 64)) (vs 8) w5 := hk 8 _ rfl
            clear hk
            replace b0 := Drawn.cell hx5 b0 (by dsimp only; omega)
            replace b2 := Drawn.cell hx5 b2 (by dsimp only; omega)
            go_simp
          obtain ⟨x, hx, hxs⟩ := k8
          rw [hx]
          clear k3 k6 k7 hx
          replace bx := hx5.blk bx (by omega)
          replace br := hx5.blk br (by omega)
          replace hd := hd.trans hx5
          obtain ⟨b0, b1, b2, g0, g1, g2⟩ := bx.c3
          go_wp2
          go_round
          case rel =>
            refine ⟨k, x, by go_num, by omega, by omega, ?_, br.other (by omega) _, hd.store (by have := HX.out.2; show w.heap.size ≤ X; omega) _⟩
            have := bx.set (i := 2) (by simp) (.string x)
            simpa using this
          case measure => simp [intOf]
  · go_wp2_with fail
    with_reducible refine (pick_ok hd.cur (by kernel_rfl) (by omega) (by omega)).mono ?_
    rintro e w2 ⟨x, rfl, hx, hd2⟩
    replace br := hd2.blk br (by omega)
    replace hd := hd.trans hd2
    clear hd2
    go_wp2_with fail
    with_reducible refine (parse_bytes x _ (by omega)).mono ?_
    rintro e w3 ⟨L, W, o, b, rfl, ho, hx3⟩
    replace br := br.ext hx3
    replace hd := hd.ext hx3
    clear hx3
    have bc : Blk (w3.alloc (.cells #[.int .i64 L, .int .i64 W, .string o] 25)) w3.heap.size #[.int .i64 L, .int .i64 W, .string o] := by (repeat (first | (refine Blk.mk' ?_; (simp; done)) | apply Blk.old))
    replace br := br.old (o := .cells #[.int .i64 L, .int .i64 W, .string o] 25)
    replace hd := hd.alloc (.cells #[.int .i64 L, .int .i64 W, .string o] 25)
    obtain ⟨r0, r1, r2, f0, f1, f2⟩ := br.c3
    obtain ⟨b0, b1, b2, -, -, -⟩ := bc.c3
    clear br bc
    go_wp2
    refine bodyPost_ret (v := .agg #[.int .i64 L, .int .i64 W, .string o]) ?_ rfl ⟨_, rfl, ⟨L, W, o, rfl, ho⟩, ((hd.store (Nat.le_refl _) _).store (Nat.le_refl _) _).store (Nat.le_refl _) _⟩
    simp [results, Tryz.results40, go_sem, r0, r1, r2]

set_option maxRecDepth 100000 in
set_option maxHeartbeats 4000000 in
theorem spec_l11Bent_any (B z : Nat) (w : World) (c : Cur B w z) :
    Calls Tryz.prog 52 #[.pointer (some ⟨z, 0, none⟩)] w fun e w' => ∃ v, e = .returned v ∧ CodeV 1048577 v ∧ Drawn B z w w' := by
  have hlt := c.lt
  have hd := (Drawn.start c).alloc (.cells #[.int .i64 0, .int .i64 0, .string ⟨#[]⟩] 25)
  have br : Blk (w.alloc (.cells #[.int .i64 0, .int .i64 0, .string ⟨#[]⟩] 25)) w.heap.size #[.int .i64 0, .int .i64 0, .string ⟨#[]⟩] := by (repeat (first | (refine Blk.mk' ?_; (simp; done)) | apply Blk.old))
  go_enter Tryz.func52, Tryz.ntmps52
  go_wp2_with fail
  with_reducible refine (spec_l11Draw_any B z _ hd.cur).mono ?_
  rintro e w1 ⟨v, rfl, ⟨L, W, o, rfl, ho⟩, hd2⟩
  replace br := hd2.blk br (by omega)
  replace hd := hd.trans hd2
  clear hd2
  have hrX := br.lt
  have bx : Blk (w1.alloc (.cells #[.int .i64 L, .int .i64 W, .string o] 25)) w1.heap.size #[.int .i64 L, .int .i64 W, .string o] := by (repeat (first | (refine Blk.mk' ?_; (simp; done)) | apply Blk.old))
  replace br := br.old (o := .cells #[.int .i64 L, .int .i64 W, .string o] 25)
  replace hd := hd.alloc (.cells #[.int .i64 L, .int .i64 W, .string o] 25)
  obtain ⟨X, hX⟩ : ∃ X, X = w1.heap.size := ⟨_, rfl⟩
  obtain ⟨r, hr⟩ : ∃ r, r = w.heap.size := ⟨_, rfl⟩
  have hXr : r < X := by omega
  have hzr : z < r := by omega
  go_wp2_with fail
  with_reducible refine (spec_l1Below_any B z _ _ hd.cur).mono ?_
  rintro e w2 ⟨q, rfl, -, -, hd2⟩
  replace br := hd2.blk br (by omega)
  replace bx := hd2.blk bx (by omega)
  replace hd := hd.trans hd2
  clear hd2
  rw [← hX] at bx
  rw [← hr] at br
  rw [← hX, ← hr]
  have HX := Lib.hid (And.intro hX hr)
  clear hX hr hrX hlt
  have hcat : ¬ (9223372036854775807 : Int) < (o.size : Int) + 1 := by omega
  obtain ⟨b0, b1, b2, g0, g1, g2⟩ := bx.c3
  obtain ⟨r0, r1, r2, f0, f1, f2⟩ := br.c3
  by_cases h0 : q = 0
  · have e0 : ((q : Int) == 0) = true := by simp [h0]
    clear h0
    have bx2 : Blk (w2.setCell ⟨X, 2, none⟩ (.string (o ++ ⟨#[97]⟩))) X #[.int .i64 L, .int .i64 W, .string (o ++ ⟨#[97]⟩)] := by
      have := bx.set (i := 2) (by simp) (.string (o ++ ⟨#[97]⟩))
      simpa using this
    have br2 := br.other (b' := X) (i := 2) (by omega) (.string (o ++ ⟨#[97]⟩))
    have hd2 := hd.store (p := ⟨X, 2, none⟩) (by have := HX.out.2; show w.heap.size ≤ X; omega) (.string (o ++ ⟨#[97]⟩))
    go_wp2
    refine bodyPost_ret (v := .agg #[.int .i64 L, .int .i64 W, .string (o ++ ⟨#[97]⟩)]) ?_ rfl ⟨_, rfl, ⟨_, _, _, rfl, by rw [ByteArray.size_append]; show o.size + 1 ≤ _; omega⟩, ((hd2.store (Nat.le_of_eq HX.out.2.symm) _).store (Nat.le_of_eq HX.out.2.symm) _).store (Nat.le_of_eq HX.out.2.symm) _⟩
    simp [results, Tryz.results52, go_sem, r0, r1, r2]
  have e0 : ((q : Int) == 0) = false := by simp; omega
  by_cases h1 : q = 1
  · have e1 : ((q : Int) == 1) = true := by simp [h1]
    clear h0 h1
    go_wp2_with fail
    with_reducible refine (pickInt_lit hd.cur (l := [1, 4, 3, 2]) rfl (by omega) (by decide) (by omega) (by omega)).mono ?_
    rintro e w3 ⟨y, rfl, -, hd2⟩
    replace br := hd2.blk br (by omega)
    replace bx := hd2.blk bx (by omega)
    replace hd := hd.trans hd2
    clear hd2 b0 b1 b2 g0 g1 g2 r0 r1 r2 f0 f1 f2
    have bx2 : Blk (w3.setCell ⟨X, 0, none⟩ (.int .i64 y)) X #[.int .i64 y, .int .i64 W, .string o] := by
      have := bx.set (i := 0) (by simp) (.int .i64 y)
      simpa using this
    have br2 := br.other (b' := X) (i := 0) (by omega) (.int .i64 y)
    have hd2 := hd.store (p := ⟨X, 0, none⟩) (by have := HX.out.2; show w.heap.size ≤ X; omega) (.int .i64 y)
    obtain ⟨b0, b1, b2, g0, g1, g2⟩ := bx.c3
    obtain ⟨r0, r1, r2, f0, f1, f2⟩ := br.c3
    clear bx br e0 e1
    go_wp2
    refine bodyPost_ret (v := .agg #[.int .i64 y, .int .i64 W, .string o]) ?_ rfl ⟨_, rfl, ⟨_, _, _, rfl, by omega⟩, ((hd2.store (Nat.le_of_eq HX.out.2.symm) _).store (Nat.le_of_eq HX.out.2.symm) _).store (Nat.le_of_eq HX.out.2.symm) _⟩
    simp [results, Tryz.results52, go_sem, r0, r1, r2]
  · have e1 : ((q : Int) == 1) = false := by simp; omega
    clear h0 h1
    go_wp2
    refine bodyPost_ret (v := .agg #[.int .i64 L, .int .i64 W, .string o]) ?_ rfl ⟨_, rfl, ⟨_, _, o, rfl, by omega⟩, ((hd.store (Nat.le_of_eq HX.out.2.symm) _).store (Nat.le_of_eq HX.out.2.symm) _).store (Nat.le_of_eq HX.out.2.symm) _⟩
    simp [results, Tryz.results52, go_sem, r0, r1, r2]
end Go.Proofs.YtgaeeibcfoppbaaGreatDoor
