/- Contracts: shifts drawn (3): a shift bent. -/
import Derived.Test.YtfiembmfkokllaaGreatPrsE
namespace Go.Proofs.YtfiembmfkokllaaGreat
open Go.RowKit Go.Cm

theorem RowK.blk {B z b : Nat} {E : TypeId} {v : Value} {fs : List Value} {w w' : World} (h : RowK B z b E v fs w w') {d : Nat} {c : Array Value} (k : Blk w d c) (hz : d ≠ z) (hr : v.ownBlock ≠ some d) : Blk w' d c := by
  have hb := h.block d k.lt hz hr
  exact ⟨fun i u hv => h.cell (k.cell i u hv) hz hr, fun i => (by rw [← k.frozen i]; exact World.frozen?_of_block hb), Nat.lt_of_lt_of_le k.lt h.size⟩
theorem BesJ.new {B z b s0 n : Nat} {E E' : TypeId} {v0 : Value} {fs : List Value} {P : List Value → Prop} {w : World} {cs : List Value} (c : Cur B w z) (hvz : v0.ownBlock ≠ some z) (hs : s0 ≤ w.heap.size) (hp : P cs) (hn : cs.length = n) (hm : n ≤ 1000) :
    RowK B z b E' v0 fs w (w.alloc (.cells cs.toArray E)) ∧ BesJ B z s0 n E P (.slice (some ⟨w.heap.size, 0, none⟩) n n) (w.alloc (.cells cs.toArray E)) := by
  subst hn
  exact ⟨RowK.ofGrown (row := none) (c.ext (Ext.alloc _ _)) (grown_ext (Ext.alloc _ _) none) (.inl rfl) hvz, c.ext (Ext.alloc _ _), _, rfl, cs, hp, (Own.lit w E cs (by unfold maxLen; omega)).mono hs⟩
theorem BesJ.pick {B z b s0 n : Nat} {E E' : TypeId} {v0 v : Value} {fs : List Value} {P : List Value → Prop} {w : World} (h : BesJ B z s0 n E P v w) (hvz : v0.ownBlock ≠ some z) (hz : z < s0) (hP : ∀ l, P l → ∃ xs : List ByteArray, l = xs.map .string ∧ 0 < xs.length ∧ ∀ x ∈ xs, x.size ≤ 64) :
    Calls Tryz.prog 67 #[.pointer (some ⟨z, 0, none⟩), v] w fun e w'' => ∃ u, e = .returned u ∧ RowK B z b E' v0 fs w w'' ∧ StrLe 64 u w'' := by
  obtain ⟨c, g, e, l, hp, ho⟩ := h
  obtain ⟨xs, rfl, h0, hx⟩ := hP l hp
  exact (spec_l1Pick_any B z v xs w c h0 (fun w' hd => (hd.keeps ho hz).reads)).mono (by
    rintro e w' ⟨x, rfl, hm, hd⟩
    exact ⟨_, rfl, RowK.ofGrown (row := some z) hd.cur hd.grown (.inr rfl) hvz, x, rfl, hx x hm⟩)
/-- four short texts -/
def FourT (l : List Value) : Prop := l = [.string ⟨#[97]⟩, .string ⟨#[]⟩, .string ⟨#[100]⟩, .string ⟨#[97, 97, 97, 97]⟩]
theorem FourT.texts (l : List Value) (h : FourT l) : ∃ xs : List ByteArray, l = xs.map .string ∧ 0 < xs.length ∧ ∀ x ∈ xs, x.size ≤ 64 :=
  ⟨[⟨#[97]⟩, ⟨#[]⟩, ⟨#[100]⟩, ⟨#[97, 97, 97, 97]⟩], h, by simp, by decide⟩
abbrev rowRelS (B z r : Nat) (q : Option Addr) (n cc : Nat) (F : List (List UInt8)) : Rel := rowRel B z (r + 1) 9 (.slice q n cc) (scells F)
@[go_sem] theorem rowRelS_r (B z r : Nat) (q : Option Addr) (n cc : Nat) (F : List (List UInt8)) (w w' : World) : (rowRelS B z r q n cc F).r w w' = ((Cur B w z ∧ (Value.slice q n cc).ownBlock ≠ some z) → RowK B z (r + 1) 9 (.slice q n cc) (scells F) w w') := rfl
def AppS (B z r : Nat) (q : Option Addr) (n cc : Nat) (F : List (List UInt8)) (v : Value) (w : World) : Prop := AppJ B z (r + 1) 9 (.slice q n cc) (scells F) v w
theorem AppS.ok {B z r : Nat} {q : Option Addr} {n cc : Nat} {F : List (List UInt8)} (hz : z < r + 1) (v : Value) (w w' : World) (h : (rowRelS B z r q n cc F).r w w') (k : AppS B z r q n cc F v w) : AppS B z r q n cc F v w' := AppJ.ok hz v w w' h k
def OneT (l : List Value) : Prop := ∃ u, Short u ∧ l = [u]

set_option maxRecDepth 100000 in
set_option maxHeartbeats 4000000 in
theorem spec_l3Bent_any (B z : Nat) (w : World) (c : Cur B w z) :
    Calls Tryz.prog 29 #[.pointer (some ⟨z, 0, none⟩)] w fun e w' => ∃ v, e = .returned v ∧ ShR 1001 w' w.heap.size v ∧ Drawn B z w w' := by
  have hlt := c.lt
  have hlow := c.low
  have hd := (Drawn.start c).alloc (.cells #[.int .i64 0, .slice none 0 0] 26)
  have br : Blk (w.alloc (.cells #[.int .i64 0, .slice none 0 0] 26)) w.heap.size #[.int .i64 0, .slice none 0 0] := by (repeat (first | (refine Blk.mk' ?_; (simp; done)) | apply Blk.old))
  go_enter Tryz.func29, Tryz.ntmps29
  go_wp2_with fail
  with_reducible refine (spec_l3Draw_any B z _ hd.cur).mono ?_
  rintro e w1 ⟨v, rfl, ⟨L, q, n, cc, F, rfl, ho, hf, hn⟩, hd2⟩
  replace br := hd2.blk br (by omega)
  replace hd := hd.trans hd2
  clear hd2
  have hrX := br.lt
  have bx : Blk (w1.alloc (.cells #[.int .i64 L, .slice q n cc] 26)) w1.heap.size #[.int .i64 L, .slice q n cc] := by (repeat (first | (refine Blk.mk' ?_; (simp; done)) | apply Blk.old))
  replace br := br.old (o := .cells #[.int .i64 L, .slice q n cc] 26)
  replace hd := hd.alloc (.cells #[.int .i64 L, .slice q n cc] 26)
  have hq : ∀ k, (Value.slice q n cc).ownBlock = some k → w.heap.size + 1 ≤ k ∧ k < w1.heap.size := fun k hk => by
    have := World.ownsRow.lt ho k hk
    simpa using this
  replace ho := (ho.mono (B' := w.heap.size + 1) (by simp)).ext (Ext.alloc w1 (.cells #[.int .i64 L, .slice q n cc] 26))
  have HN := Lib.hid (show n = F.length by have := Own.len ho; rwa [scells_length] at this)
  obtain ⟨X, hX⟩ : ∃ X, X = w1.heap.size := ⟨_, rfl⟩
  obtain ⟨r, hr⟩ : ∃ r, r = w.heap.size := ⟨_, rfl⟩
  have hXr : r < X := by omega
  have hzr : z < r := by omega
  have hBr : B ≤ r := by omega
  go_wp2_with fail
  with_reducible refine (spec_l1Below_any B z _ _ hd.cur).mono ?_
  rintro e w3 ⟨y, rfl, hy, -, hd2⟩
  replace br := hd2.blk br (by omega)
  replace bx := hd2.blk bx (by omega)
  replace ho := hd2.keeps ho (by omega)
  replace hd := hd.trans hd2
  clear hd2 hy
  rw [← hX] at bx hq
  rw [← hr] at br ho hq
  rw [← hX, ← hr]
  have HX := Lib.hid (And.intro hr hq)
  clear hX hr hrX hlt hlow hq
  by_cases h0 : y = 0
  · have e0 : ((y : Int) == 0) = true := by simp [h0]
    go_wp2_with fail
    with_reducible refine (pickInt_lit (cs := #[.int .i64 0, .int .i64 4, .int .i64 1]) hd.cur (l := [0, 4, 1]) rfl (by omega) (by decide) (by omega) (by omega)).mono ?_
    rintro e w4 ⟨x, rfl, -, hd2⟩
    replace br := hd2.blk br (by omega)
    replace bx := hd2.blk bx (by omega)
    replace ho := hd2.keeps ho (by omega)
    replace hd := hd.trans hd2
    clear hd2 h0 e0
    have HF := Lib.hid (And.intro ho (And.intro hf (And.intro hn hd)))
    clear ho hf hn hd
    have x0 := bx.d0
    have x1 := bx.d1
    have t0 := bx.frozen 0
    have r0 := br.d0
    have r1 := br.d1
    have f0 := br.frozen 0
    have f1 := br.frozen 1
    go_wp2
    have h1 := grown_keeps (grown_store (w4.setCell ⟨X, 0, none⟩ (.int .i64 x)) ⟨r, 0, none⟩ (.int .i64 x)) (own_block HF.out.1 (fun k hk => (grown_store w4 ⟨X, 0, none⟩ (.int .i64 x)).block k (World.ownsRow.lt HF.out.1 k hk).2 (fun e => by have := (HX.out.2 k hk).2; have := Option.some.inj e; simp at this; omega))) (by dsimp only; omega)
    have h2 := grown_keeps (grown_store _ ⟨r, 1, none⟩ (.slice q n cc)) h1 (by dsimp only; omega)
    refine bodyPost_ret (v := .agg #[.int .i64 x, .slice q n cc]) ?_ rfl ⟨_, rfl, ⟨_, _, _, _, F, rfl, h2.mono (by have := HX.out.1; omega), HF.out.2.1, by have := HF.out.2.2.1; omega⟩, ((HF.out.2.2.2.store (p := ⟨X, 0, none⟩) (by have := HX.out.1; show w.heap.size ≤ X; omega) (.int .i64 x)).store (p := ⟨r, 0, none⟩) (Nat.le_of_eq HX.out.1.symm) _).store (p := ⟨r, 1, none⟩) (Nat.le_of_eq HX.out.1.symm) _⟩
    simp [results, Tryz.results29, go_sem, r0, r1]
  by_cases h1 : y = 1
  · have e0 : ((y : Int) == 0) = false := by simp; omega
    have e1 : ((y : Int) == 1) = true := by simp [h1]
    have hvz : (Value.slice q n cc).ownBlock ≠ some z := fun e => by have := HX.out.2 z e; omega
    have hcz := And.intro hd.cur hvz
    have HRG : ∀ k, X ≤ k → (Value.slice q n cc).ownBlock ≠ some k := fun k hk e => by have := HX.out.2 k e; omega
    have hu1 : (scells F).length + 1 ≤ maxLen := by rw [scells_length]; unfold maxLen; omega
    have hu2 : ((scells F).length + 1) * 16 ≤ 140737488355328 := by rw [scells_length]; omega
    have hXw := bx.lt
    obtain ⟨X1, hX1⟩ : ∃ X1, X1 = X + 1 := ⟨_, rfl⟩
    have x1 := bx.d1
    have hqX : ∀ k, (Value.slice q n cc).ownBlock = some k → k < X1 := fun k hk => by have := HX.out.2 k hk; omega
    have HF := Lib.hid (And.intro ho (And.intro hf (And.intro hn (And.intro hd (And.intro hu1 hu2)))))
    clear ho hf hn hd hu1 hu2 h0 h1
    go_wp2
    refine wp_region_tailR (R := (rowRelS B z r q n cc F)) (by kernel_rfl) 8 (.known ?hx5_27_v0 :: .known ?hx5_27_v1 :: .known ?hx5_27_v2 :: .such (BesJ B z X1 4 9 FourT) (BesJ.ok (by omega) hqX hvz) :: .such (StrLe 64) (fun _ _ _ _ h => h) :: .such (BesJ B z X1 1 9 OneT) (BesJ.ok (by omega) hqX hvz) :: .such (AppS B z r q n cc F) (AppS.ok (by omega)) :: .known ?hx5_27_v7 :: []) rfl (by decide) (by kernel_rfl) (by kernel_rfl) ?hx5_27_s ?hx5_27_p
    case hx5_27_s =>
      intro vs
      refine ⟨fun w' hxw hj => ?_, fun w' hxw hj => ?_, fun w' hxw hj => ?_, fun w' hxw hj => ?_, fun w' hxw hj => ?_, fun w' hxw hj => ?_, fun w' hxw hj => ?_, fun w' hxw hj => ?_, trivial⟩
      · have hdw := hxw hcz
        have hcw := hdw.cur
        have x1 := RowK.cell hdw x1 (by dsimp only; omega) (HRG _ (by dsimp only; omega))
        clear hj hxw
        go_simp
        try go_bits
        refine ⟨RowK.start hcw, ?_⟩
        rfl
      · have hdw := hxw hcz
        have hcw := hdw.cur
        have x1 := RowK.cell hdw x1 (by dsimp only; omega) (HRG _ (by dsimp only; omega))
        clear hj hxw
        go_simp
        try go_bits
        refine ⟨RowK.start hcw, ?_⟩
        rfl
      · have hdw := hxw hcz
        have hcw := hdw.cur
        have x1 := RowK.cell hdw x1 (by dsimp only; omega) (HRG _ (by dsimp only; omega))
        clear hj hxw
        go_simp
        try go_bits
        refine ⟨RowK.start hcw, ?_⟩
        rfl
      · have hdw := hxw hcz
        have hcw := hdw.cur
        have x1 := RowK.cell hdw x1 (by dsimp only; omega) (HRG _ (by dsimp only; omega))
        clear hj hxw
        go_simp
        try go_bits
        exact BesJ.new hcw hvz (by have := hdw.size; omega) rfl rfl (by omega)
      · have hdw := hxw hcz
        have hcw := hdw.cur
        have x1 := RowK.cell hdw x1 (by dsimp only; omega) (HRG _ (by dsimp only; omega))
        have k3 : BesJ B z X1 4 9 FourT (vs 3) w' := hj 3 (by kernel_rfl)
        clear hj hxw
        go_simp
        try go_bits
        exact ⟨RowK.start hcw, BesJ.pick k3 hvz (by omega) FourT.texts⟩
      · have hdw := hxw hcz
        have hcw := hdw.cur
        have x1 := RowK.cell hdw x1 (by dsimp only; omega) (HRG _ (by dsimp only; omega))
        have k4 : StrLe 64 (vs 4) w' := hj 4 (by kernel_rfl)
        apply StrLe.elim k4
        intro x hx hxs
        clear k4
        clear hj hxw
        go_simp
        try go_bits
        exact BesJ.new (cs := [.string x]) hcw hvz (by have := hdw.size; omega) ⟨_, ⟨x, rfl, hxs⟩, rfl⟩ rfl (by omega)
      · have hdw := hxw hcz
        have hcw := hdw.cur
        have x1 := RowK.cell hdw x1 (by dsimp only; omega) (HRG _ (by dsimp only; omega))
        have h5 : BesJ B z X1 1 9 OneT (vs 5) w' := hj 5 (by kernel_rfl)
        have ho' := hdw.own HF.out.1
        have hsz := hdw.size
        clear hj
        refine by_if (by kernel_rfl) ?_
        exact leavesR_append (.tmp 17) (.tmp 21) 24 rfl 9 _ _ Tryz.underlying24 infoStr rfl B z (r + 1) X1 (.slice q n cc) (scells F) rfl ho' h5 HF.out.2.2.2.2.1 HF.out.2.2.2.2.2 (by omega) (by omega) (by omega)
      · have hdw := hxw hcz
        have hcw := hdw.cur
        have x1 := RowK.cell hdw x1 (by dsimp only; omega) (HRG _ (by dsimp only; omega))
        clear hj hxw
        go_simp
        try go_bits
        refine ⟨RowK.start hcw, ?_⟩
        rfl
    case' hx5_27_p =>
      intro vs w5 hx5 hk
      replace hx5 := hx5 hcz
      have k3 : (BesJ B z X1 4 9 FourT) (vs 3) w5 := hk 3 _ rfl
      have k4 : (StrLe 64) (vs 4) w5 := hk 4 _ rfl
      have k5 : (BesJ B z X1 1 9 OneT) (vs 5) w5 := hk 5 _ rfl
      have k6 : (AppS B z r q n cc F) (vs 6) w5 := hk 6 _ rfl
      clear hk
      replace x1 := RowK.cell hx5 x1 (by dsimp only; omega) (HRG _ (by dsimp only; omega))
      go_simp
    obtain ⟨-, ho0, q', c', e6, u, ⟨x, rfl, hxs⟩, ho6⟩ := k6
    rw [scells_length] at e6
    rw [e6] at ho6 ⊢
    obtain ⟨xs, rfl, hxl⟩ := text_is x
    have hd5 := hx5.drawn HF.out.2.2.2.1 (fun k hk => by have := HX.out.2 k hk; have := HX.out.1; omega)
    have bx5 := hx5.blk bx (by omega) (HRG _ (Nat.le_refl _))
    have br5 := hx5.blk br (by omega) (fun e => by have := HX.out.2 r e; omega)
    have hnX : ∀ k, (Value.slice q' (F.length + 1) c').ownBlock = some k → k ≠ X := by
      intro k hk e
      subst e
      rcases ho6.shape with ⟨h, _⟩ | ⟨g, c2, h, _⟩
      · rw [h] at hk; simp [Value.ownBlock] at hk
      · rw [h] at hk ho6
        have : g = k := by simpa [Value.ownBlock] using hk
        subst this
        have h1 := ho6.cell 0 (by simp)
        rw [bx5.d0] at h1
        cases F <;> simp [scells] at h1
    obtain ⟨v6, hv6⟩ : ∃ v6, v6 = (Value.slice q' (F.length + 1) c') := ⟨_, rfl⟩
    have hsw := own_block ho6 (fun k hk => (grown_store w5 ⟨X, 1, none⟩ v6).block k (World.ownsRow.lt ho6 k hk).2 (fun e => hnX k hk (by have := Option.some.inj e; dsimp only at this; omega)))
    have h1 := grown_keeps (grown_store _ ⟨r, 0, none⟩ (.int .i64 L)) hsw (by dsimp only; omega)
    have h2 := grown_keeps (grown_store _ ⟨r, 1, none⟩ v6) h1 (by dsimp only; omega)
    have hsc : scells F ++ [Value.string (mkS xs)] = scells (F ++ [xs]) := by simp [scells]
    rw [hv6, hsc] at h2
    have hfx : ∀ f ∈ F ++ [xs], f.length ≤ 100000 := by
      intro f hf
      rcases List.mem_append.1 hf with hf | hf
      · exact HF.out.2.1 f hf
      · rw [List.mem_singleton.1 hf]; omega
    have hlx : (F ++ [xs]).length ≤ 1001 := by have := HF.out.2.2.1; rw [List.length_append]; simp; omega
    have HE := Lib.hid (And.intro h2 (And.intro hfx (And.intro hlx (((hd5.store (p := ⟨X, 1, none⟩) (by have := HX.out.1; show w.heap.size ≤ X; omega) (.slice q' (F.length + 1) c')).store (p := ⟨r, 0, none⟩) (Nat.le_of_eq HX.out.1.symm) (.int .i64 L)).store (p := ⟨r, 1, none⟩) (Nat.le_of_eq HX.out.1.symm) (.slice q' (F.length + 1) c')))))
    clear hv6 v6 hsw h1 h2 hsc hfx hlx hnX hd5 ho6 ho0 hx5 HF HRG hqX hcz hvz k3 k4 k5 e6 hxs hxl bx br
    have x0 := bx5.d0
    have x1 := bx5.d1
    have t1 := bx5.frozen 1
    have r0 := br5.d0
    have r1 := br5.d1
    have f0 := br5.frozen 0
    have f1 := br5.frozen 1
    go_wp2
    refine bodyPost_ret (v := .agg #[.int .i64 L, .slice q' (F.length + 1) c']) ?_ rfl ⟨_, rfl, ⟨_, _, _, _, F ++ [xs], rfl, HE.out.1.mono (by have := HX.out.1; omega), HE.out.2.1, HE.out.2.2.1⟩, HE.out.2.2.2⟩
    simp [results, Tryz.results29, go_sem, r0, r1]
  · have e0 : ((y : Int) == 0) = false := by simp; omega
    have e1 : ((y : Int) == 1) = false := by simp; omega
    clear h0 h1
    have HF := Lib.hid (And.intro ho (And.intro hf (And.intro hn hd)))
    clear ho hf hn hd
    have x0 := bx.d0
    have x1 := bx.d1
    have t0 := bx.frozen 0
    have r0 := br.d0
    have r1 := br.d1
    have f0 := br.frozen 0
    have f1 := br.frozen 1
    go_wp2
    have h1 := grown_keeps (grown_store w3 ⟨r, 0, none⟩ (.int .i64 L)) HF.out.1 (by dsimp only; omega)
    have h2 := grown_keeps (grown_store _ ⟨r, 1, none⟩ (.slice q n cc)) h1 (by dsimp only; omega)
    refine bodyPost_ret (v := .agg #[.int .i64 L, .slice q n cc]) ?_ rfl ⟨_, rfl, ⟨_, _, _, _, F, rfl, h2.mono (by have := HX.out.1; omega), HF.out.2.1, by have := HF.out.2.2.1; omega⟩, (HF.out.2.2.2.store (p := ⟨r, 0, none⟩) (Nat.le_of_eq HX.out.1.symm) _).store (p := ⟨r, 1, none⟩) (Nat.le_of_eq HX.out.1.symm) _⟩
    simp [results, Tryz.results29, go_sem, r0, r1]
end Go.Proofs.YtfiembmfkokllaaGreat
