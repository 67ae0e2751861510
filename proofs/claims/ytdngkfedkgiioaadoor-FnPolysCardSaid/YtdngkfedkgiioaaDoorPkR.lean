/- Several texts of mine in one: DrwA, DrwB, OldB, Big. -/
import Derived.Test.YtdngkfedkgiioaaDoorPkA
import Derived.Test.YtdngkfedkgiioaaDoorPkC
import Derived.Test.YtdngkfedkgiioaaDoorPkB
/- Contracts: the cursor of the draws: what is drawn is some value within bounds, and nothing but the cursor turns. -/
namespace Go
open Go.RowKit

theorem Reads.old {w w' : World} {v : Value} {fs : List Value} (h : Reads w v fs) (hb : ∀ k, k < w.heap.size → w'.heap[k]? = w.heap[k]?) : Reads w' v fs := by
  obtain ⟨a, cap, hv, h1, h2, h3⟩ := h
  refine ⟨a, cap, hv, h1, h2, fun i hi => ?_⟩
  obtain ⟨b, o, ha, hc⟩ := h3 i hi
  exact ⟨b, o, ha, (World.cell?_of_block (hb b (World.block_lt_of_cell? w _ hc))).trans hc⟩

end Go
namespace Go.Proofs.YtdngkfedkgiioaaDoor
open Go.RowKit Go.Cm
/-- what lies in the cursor's block; the bytes lie below B -/
structure CurAt (B : Nat) (w : World) (z : Nat) (v : Value) (xs : List UInt8) (i : Nat) (h : Int) : Prop where
  low : B ≤ z
  blk : Blk w z #[v, .int .i64 i, .int .i64 h]
  le : i ≤ xs.length
  reads : ∀ w', (∀ k, k < B → w'.heap[k]? = w.heap[k]?) → ReadsB w' v xs
/-- a cursor -/
def Cur (B : Nat) (w : World) (z : Nat) : Prop := ∃ v xs i h, CurAt B w z v xs i h

theorem Cur.lt {B : Nat} {w : World} {z : Nat} (c : Cur B w z) : z < w.heap.size := by
  obtain ⟨v, xs, i, h, c⟩ := c
  exact c.blk.lt
theorem Cur.low {B : Nat} {w : World} {z : Nat} (c : Cur B w z) : B ≤ z := by
  obtain ⟨v, xs, i, h, c⟩ := c
  exact c.low
theorem Cur.kept {B : Nat} {w w' : World} {z : Nat} {row : Option Nat} (c : Cur B w z) (hg : w.grownBy w' row) (hne : row ≠ some z) (hr : ∀ k, row = some k → B ≤ k) : Cur B w' z := by
  have hlt := c.lt
  obtain ⟨v, xs, i, h, c⟩ := c
  exact ⟨v, xs, i, h, c.low, GB.blk hg c.blk hne, c.le, fun w'' hb => c.reads w'' fun k hk => (hb k hk).trans (hg.block k (by have := c.low; omega) fun e => by have := hr k e.symm; omega)⟩
theorem grown_ext {w w' : World} (h : Ext w w') (row : Option Nat) : w.grownBy w' row := ⟨h.os, h.tape, h.output, h.size, fun k hk _ => h.block k hk⟩
theorem Cur.ext {B : Nat} {w w' : World} {z : Nat} (c : Cur B w z) (hx : Ext w w') : Cur B w' z := c.kept (grown_ext hx none) (by simp) (fun k e => by cases e)
theorem grown_store (w : World) (a : Addr) (v : Value) : w.grownBy (w.setCell a v) (some a.block) :=
  ⟨rfl, rfl, rfl, by simp [World.setCell], fun k _ hne => Below.heap_setCell w a v k fun e => hne (by rw [e])⟩
theorem grown_trans {a b c : World} {row : Option Nat} (h : a.grownBy b row) (k : b.grownBy c row) : a.grownBy c row :=
  ⟨k.os.trans h.os, k.tape.trans h.tape, k.output.trans h.output, Nat.le_trans h.size k.size, fun i hi hne => (k.block i (Nat.lt_of_lt_of_le hi h.size) hne).trans (h.block i hi hne)⟩
theorem grown_past {a b c : World} {row row2 : Option Nat} (h : a.grownBy b row) (k : b.grownBy c row2) (hr : ∀ x, row2 = some x → a.heap.size ≤ x) : a.grownBy c row :=
  ⟨k.os.trans h.os, k.tape.trans h.tape, k.output.trans h.output, Nat.le_trans h.size k.size, fun i hi hne => (k.block i (Nat.lt_of_lt_of_le hi h.size) (fun e => by have := hr i e.symm; omega)).trans (h.block i hi hne)⟩

/-- the cursor alone has turned, and it is one still -/
structure Drawn (B z : Nat) (w w' : World) : Prop where
  low : B ≤ z
  lt : z < w.heap.size
  grown : w.grownBy w' (some z)
  cur : Cur B w' z
theorem Drawn.start {B z : Nat} {w : World} (c : Cur B w z) : Drawn B z w w := ⟨c.low, c.lt, World.grownBy.refl _ _, c⟩
theorem Drawn.trans {B z : Nat} {a b c : World} (h : Drawn B z a b) (k : Drawn B z b c) : Drawn B z a c := ⟨h.low, h.lt, grown_trans h.grown k.grown, k.cur⟩
theorem Drawn.ext {B z : Nat} {a b c : World} (h : Drawn B z a b) (hx : Ext b c) : Drawn B z a c := ⟨h.low, h.lt, grown_past h.grown (grown_ext hx none) (fun x e => by cases e), h.cur.ext hx⟩
theorem Drawn.alloc {B z : Nat} {a b : World} (h : Drawn B z a b) (o : Obj) : Drawn B z a (b.alloc o) := h.ext (Ext.alloc _ _)
theorem Drawn.store {B z : Nat} {a b : World} (h : Drawn B z a b) {p : Addr} (hp : a.heap.size ≤ p.block) (v : Value) : Drawn B z a (b.setCell p v) :=
  have hlt := h.lt
  have hlow := h.low
  ⟨h.low, h.lt, grown_past h.grown (grown_store b p v) (fun x e => by cases e; exact hp), h.cur.kept (grown_store b p v) (fun e => by have := Option.some.inj e; omega) (fun k e => by cases e; omega)⟩
theorem Drawn.cell {B z : Nat} {w w' : World} (h : Drawn B z w w') {a : Addr} {v : Value} (hc : w.cell? a = some v) (hne : a.block ≠ z) : w'.cell? a = some v := h.grown.cell hc (fun e => hne (Option.some.inj e))
theorem Drawn.blk {B z : Nat} {w w' : World} (h : Drawn B z w w') {b : Nat} {c : Array Value} (k : Blk w b c) (hne : b ≠ z) : Blk w' b c := GB.blk h.grown k (fun e => hne (Option.some.inj e).symm)
theorem Drawn.toExt {B z : Nat} {w0 w w' : World} (hx : Ext w0 w) (hz : w0.heap.size ≤ z) (h : Drawn B z w w') : Ext w0 w' :=
  Below.grown hx h.grown hx.size (fun k e => by cases e; exact hz)
theorem Drawn.reads {B z : Nat} {w w' : World} (h : Drawn B z w w') {v : Value} {fs : List Value} (hr : ∀ w', (∀ k, k < B → w'.heap[k]? = w.heap[k]?) → Reads w' v fs) : Reads w' v fs :=
  hr w' fun k hk => h.grown.block k (by have := h.low; have := h.lt; omega) (fun e => by have := Option.some.inj e; have := h.low; omega)
/-- .. as a relation for a region whose order is drawn -/
def drawRel (B z : Nat) : Rel where
  r w w' := Cur B w z → Drawn B z w w'
  refl _ c := Drawn.start c
  trans h k c := (h c).trans (k (h c).cur)
  drew w c := (Drawn.start c).ext (Ext.drew w)
@[go_sem] theorem drawRel_r (B z : Nat) (w w' : World) : (drawRel B z).r w w' = (Cur B w z → Drawn B z w w') := rfl

set_option maxRecDepth 100000 in
set_option maxHeartbeats 1000000 in
theorem spec_l1New_any (B : Nat) (v : Value) (xs : List UInt8) (w : World) (hB : B ≤ w.heap.size) (hold : ∀ w', (∀ k, k < B → w'.heap[k]? = w.heap[k]?) → ReadsB w' v xs) :
    Calls Tryd.prog 46 #[v] w fun e w' => ∃ z, e = .returned (.pointer (some ⟨z, 0, none⟩)) ∧ w.heap.size ≤ z ∧ Cur B w' z ∧ Ext w w' := by
  have h := hold w (fun _ _ => rfl)
  obtain ⟨a, c, hv, hl, hcm, hcell⟩ := h
  obtain ⟨n, hn⟩ : ∃ n, n = xs.length := ⟨_, rfl⟩
  rw [List.length_map, ← hn] at hv hl
  have hn' : n ≤ 9223372036854775807 := by unfold maxLen at hcm; omega
  have HC := Lib.hid (And.intro hold (And.intro hv hn))
  have hcl : ∀ i, i < n → ∃ b o y, a = some ⟨b, o, none⟩ ∧ w.cell? ⟨b, o + i, none⟩ = some (.int .u8 y) := fun i hi => by
    obtain ⟨b, o, h1, h2⟩ := hcell i (by rw [List.length_map]; omega)
    exact ⟨b, o, _, h1, by rw [h2, List.getElem_map]⟩
  have HL := Lib.hid hcl
  clear hold hcell hcl hn
  subst hv
  go_enter Tryd.func46, Tryd.ntmps46
  go_wp2
  go_loopw [3, 4] (fun x j wr => ∃ (y : Int) (k : Nat), x = .int .i64 y ∧ j = .int .i64 k ∧ k ≤ n ∧ wr = w) (fun _ j _ => n - (intOf j).toNat)
  case atStart => exact ⟨_, 0, rfl, rfl, by omega, rfl⟩
  case round =>
    obtain ⟨y, k, rfl, rfl, hk, rfl⟩ := hrel
    by_cases hlt : k < n
    · obtain ⟨b, o, u, rfl, hc⟩ := HL.out k hlt
      go_wp2
      · go_round
        case rel => exact ⟨_, k + 1, rfl, by go_num, by omega, trivial⟩
        case measure => simp [intOf]; omega
      · go_ret
        exact ⟨_, rfl, Nat.le_refl _, ⟨_, xs, 0, y, hB, by (repeat (first | (refine Blk.mk' ?_; (simp; done)) | apply Blk.old)), Nat.zero_le _, fun w'' hb => HC.out.1 w'' fun k hk => (hb k hk).trans ((Ext.alloc wr _).block k (Nat.lt_of_lt_of_le hk hB))⟩, Ext.alloc _ _⟩
    · go_wp2
      go_ret
      exact ⟨_, rfl, Nat.le_refl _, ⟨_, xs, 0, y, hB, by (repeat (first | (refine Blk.mk' ?_; (simp; done)) | apply Blk.old)), Nat.zero_le _, fun w'' hb => HC.out.1 w'' fun k hk => (hb k hk).trans ((Ext.alloc wr _).block k (Nat.lt_of_lt_of_le hk hB))⟩, Ext.alloc _ _⟩

theorem CurAt.store {B : Nat} {w : World} {z : Nat} {v : Value} {xs : List UInt8} {i : Nat} {h : Int} (c : CurAt B w z v xs i h) (h' : Int) : CurAt B (w.setCell ⟨z, 2, none⟩ (.int .i64 h')) z v xs i h' :=
  ⟨c.low, by have := c.blk.set (i := 2) (by simp) (.int .i64 h'); simpa using this, c.le, fun w' hb => c.reads w' fun k hk => (hb k hk).trans ((grown_store w ⟨z, 2, none⟩ _).block k (by have := c.low; have := c.blk.lt; omega) (fun e => by have h1 : k = z := Option.some.inj e; have := c.low; omega))⟩
theorem CurAt.step {B : Nat} {w : World} {z : Nat} {v : Value} {xs : List UInt8} {i : Nat} {h : Int} (c : CurAt B w z v xs i h) {i' : Nat} (hi : i' ≤ xs.length) : CurAt B (w.setCell ⟨z, 1, none⟩ (.int .i64 i')) z v xs i' h :=
  ⟨c.low, by have := c.blk.set (i := 1) (by simp) (.int .i64 i'); simpa using this, hi, fun w' hb => c.reads w' fun k hk => (hb k hk).trans ((grown_store w ⟨z, 1, none⟩ _).block k (by have := c.low; have := c.blk.lt; omega) (fun e => by have h1 : k = z := Option.some.inj e; have := c.low; omega))⟩

theorem CurAt.bytes {B : Nat} {w : World} {z : Nat} {v : Value} {xs : List UInt8} {i : Nat} {h : Int} (c : CurAt B w z v xs i h) : ∃ (a : Option Addr) (cap : Nat), v = .slice a xs.length cap ∧ xs.length ≤ cap ∧ cap ≤ maxLen ∧ ∀ k, k < xs.length → ∃ b o y, a = some ⟨b, o, none⟩ ∧ w.cell? ⟨b, o + k, none⟩ = some (.int .u8 y) := by
  obtain ⟨a, cap, hv, hl, hcm, hcell⟩ := c.reads w (fun _ _ => rfl)
  rw [List.length_map] at hv hl
  refine ⟨a, cap, hv, hl, hcm, fun k hk => ?_⟩
  obtain ⟨b, o, h1, h2⟩ := hcell k (by rw [List.length_map]; exact hk)
  exact ⟨b, o, _, h1, by rw [h2, List.getElem_map]⟩
theorem byte_and (x : Int) : ∃ y : Nat, y < 256 ∧ bits .and .i64 x 255 = (y : Int) := by
  have h : bits .and .i64 x 255 = x % 256 := by
    have h255 : (BitVec.ofInt 64 255).toNat = 2 ^ 8 - 1 := by decide
    have key : (BitVec.ofInt 64 x &&& BitVec.ofInt 64 255).toNat = (x % ((2 ^ 64 : Nat) : Int)).toNat % 2 ^ 8 := by
      rw [BitVec.toNat_and, BitVec.toNat_ofInt, h255, Nat.and_two_pow_sub_one_eq_mod]
    show IntKind.i64.wrap ((BitVec.ofInt 64 x &&& BitVec.ofInt 64 255).toNat : Nat) = x % 256
    rw [key, IntKind.wrap_i64]
    omega
  exact ⟨(x % 256).toNat, by omega, by omega⟩

set_option maxRecDepth 100000 in
set_option maxHeartbeats 1000000 in
theorem spec_l1Byte_any (B z : Nat) (w : World) (c : Cur B w z) :
    Calls Tryd.prog 83 #[.pointer (some ⟨z, 0, none⟩)] w fun e w' => ∃ y : Nat, e = .returned (.int .i64 y) ∧ y < 256 ∧ Drawn B z w w' := by
  have hd := Drawn.start c
  obtain ⟨v, xs, i, h, c⟩ := c
  have hle := c.le
  obtain ⟨n, hn⟩ : ∃ n, n = xs.length := ⟨_, rfl⟩
  obtain ⟨a, cap, hv, hl, hcm, -⟩ := c.bytes
  rw [← hn] at hv hl hle
  have hn' : n ≤ 9223372036854775807 := by unfold maxLen at hcm; omega
  subst hv
  obtain ⟨c0, c1, c2, f0, f1, f2⟩ := c.blk.c3
  go_enter Tryd.func83, Tryd.ntmps83
  go_wp2
  have hd1 : Drawn B z w (w.setCell ⟨z, 2, none⟩ (.int .i64 (wrap64 (wrap64 (h * 6364136223846793005) + 1442695040888963407)))) := ⟨hd.low, hd.lt, grown_store w ⟨z, 2, none⟩ _, _, _, _, _, c.store _⟩
  replace c := c.store (wrap64 (wrap64 (h * 6364136223846793005) + 1442695040888963407))
  generalize w.setCell ⟨z, 2, none⟩ (.int .i64 (wrap64 (wrap64 (h * 6364136223846793005) + 1442695040888963407))) = w1 at hd1 c ⊢
  generalize wrap64 (wrap64 (h * 6364136223846793005) + 1442695040888963407) = h1 at c ⊢
  have hcl : ∀ k, k < n → ∃ b o y, a = some ⟨b, o, none⟩ ∧ w1.cell? ⟨b, o + k, none⟩ = some (.int .u8 y) := fun k hk => by
    obtain ⟨a', cap', h0, -, -, h1⟩ := c.bytes
    obtain ⟨rfl, -, -⟩ : a = a' ∧ n = xs.length ∧ cap = cap' := by simpa using h0
    exact h1 k (by omega)
  have HN := Lib.hid hn
  clear c0 c1 c2 f0 f1 f2 hd hn
  obtain ⟨c0, c1, c2, f0, f1, f2⟩ := c.blk.c3
  go_region
  obtain ⟨x0, hx0, hx1⟩ := byte_and (bits .xor .i64 (h1 / 8589934592) (h1 / 35184372088832))
  rw [hx1]
  clear hx1
  by_cases hlt : i < n
  · obtain ⟨b, o, y, rfl, hcb⟩ := hcl i hlt
    go_wp2
    go_region
    go_wp2
    go_region
    go_wp2
    obtain ⟨x1, hx1, e1⟩ := byte_and (wrap64 (x0 + wrap64 y))
    rw [e1]
    have hd2 : Drawn B z w1 (w1.setCell ⟨z, 1, none⟩ (.int .i64 ((i + 1 : Nat) : Int))) := ⟨hd1.low, Nat.lt_of_lt_of_le hd1.lt hd1.grown.size, grown_store w1 ⟨z, 1, none⟩ _, _, _, _, _, c.step (by have := HN.out; omega)⟩
    rw [show ((i + 1 : Nat) : Int) = (i : Int) + 1 by omega] at hd2
    go_ret
    exact ⟨x1, rfl, hx1, (((hd1.trans hd2).ext (Ext.drew _)).ext (Ext.drew _)).ext (Ext.drew _)⟩
  · go_wp2
    go_region
    go_wp2
    go_ret
    exact ⟨x0, rfl, hx0, (hd1.ext (Ext.drew _)).ext (Ext.drew _)⟩

theorem mod_fit (a : Nat) (n : Int) (h : 0 < n) (ha : a < 4294967296) : ∃ y : Nat, (a : Int) % n = (y : Int) ∧ (y : Int) < n ∧ y < 4294967296 := by
  have h1 := Int.emod_nonneg (a : Int) (show n ≠ 0 by omega)
  have h2 := Int.emod_lt_of_pos (a : Int) h
  have h3 : (a : Int) % n ≤ a := by
    have h4 := Int.mul_ediv_add_emod (a : Int) n
    have h5 := Int.mul_nonneg (show 0 ≤ n by omega) (Int.ediv_nonneg (show (0 : Int) ≤ a by omega) (show 0 ≤ n by omega))
    omega
  exact ⟨((a : Int) % n).toNat, by omega, by omega, by omega⟩
set_option maxHeartbeats 1000000 in
theorem spec_l1Below_any (B z : Nat) (n : Int) (w : World) (c : Cur B w z) :
    Calls Tryd.prog 49 #[.pointer (some ⟨z, 0, none⟩), .int .i64 n] w fun e w' => ∃ y : Nat, e = .returned (.int .i64 y) ∧ (0 < n → (y : Int) < n) ∧ y < 4294967296 ∧ Drawn B z w w' := by
  have hd := Drawn.start c
  by_cases h0 : n ≤ 0
  · go_enter Tryd.func49, Tryd.ntmps49
    go_wp2
    go_ret
    exact ⟨0, rfl, fun h => by omega, by omega, hd⟩
  by_cases h1 : n ≤ 256
  · have hnz : ¬ n = 0 := by omega
    go_enter Tryd.func49, Tryd.ntmps49
    go_wp2_with fail
    with_reducible refine (spec_l1Byte_any B z _ hd.cur).mono ?_
    rintro e w1 ⟨y, rfl, hy, hd1⟩
    go_wp2
    obtain ⟨r, hr, hr1, hr2⟩ := mod_fit y n (by omega) (by omega)
    rw [hr]
    go_ret
    exact ⟨r, rfl, fun _ => hr1, hr2, hd1⟩
  · go_enter Tryd.func49, Tryd.ntmps49
    go_wp2_with fail
    with_reducible refine (spec_l1Byte_any B z _ hd.cur).mono ?_
    rintro e w1 ⟨y1, rfl, hy1, hd1⟩
    replace hd := hd.trans hd1
    clear hd1
    go_wp2_with fail
    with_reducible refine (spec_l1Byte_any B z _ hd.cur).mono ?_
    rintro e w2 ⟨y2, rfl, hy2, hd2⟩
    replace hd := hd.trans hd2
    clear hd2
    go_wp2_with fail
    with_reducible refine (spec_l1Byte_any B z _ hd.cur).mono ?_
    rintro e w3 ⟨y3, rfl, hy3, hd3⟩
    replace hd := hd.trans hd3
    clear hd3
    go_wp2_with fail
    with_reducible refine (spec_l1Byte_any B z _ hd.cur).mono ?_
    rintro e w4 ⟨y4, rfl, hy4, hd4⟩
    replace hd := hd.trans hd4
    clear hd4
    go_wp2
    obtain ⟨r, hr, hr1, hr2⟩ := mod_fit (y1 * 16777216 + y2 * 65536 + y3 * 256 + y4) n (by omega) (by omega)
    rw [show ((y1 * 16777216 + y2 * 65536 + y3 * 256 + y4 : Nat) : Int) = (y1 : Int) * 16777216 + (y2 : Int) * 65536 + (y3 : Int) * 256 + (y4 : Int) by omega] at hr
    rw [hr]
    go_ret
    exact ⟨r, rfl, fun _ => hr1, hr2, hd⟩

set_option maxHeartbeats 1000000 in
theorem spec_l1Once_any (B z : Nat) (n : Int) (w : World) (c : Cur B w z) :
    Calls Tryd.prog 51 #[.pointer (some ⟨z, 0, none⟩), .int .i64 n] w fun e w' => ∃ y : Bool, e = .returned (.bool y) ∧ Drawn B z w w' := by
  go_enter Tryd.func51, Tryd.ntmps51
  go_wp2_with fail
  with_reducible refine (spec_l1Below_any B z n _ c).mono ?_
  rintro e w1 ⟨y, rfl, -, -, hd⟩
  go_wp2
  go_ret
  exact ⟨_, rfl, hd⟩

theorem reads_cells {w : World} {v : Value} {fs : List Value} (h : Reads w v fs) : ∃ a cap, v = .slice a fs.length cap ∧ fs.length ≤ 9223372036854775807 ∧ ∀ i, (hi : i < fs.length) → ∃ b o, a = some ⟨b, o, none⟩ ∧ w.cell? ⟨b, o + i, none⟩ = some fs[i] := by
  obtain ⟨a, cap, hv, hl, hm, hc⟩ := h
  exact ⟨a, cap, hv, by unfold maxLen at hm; omega, hc⟩

set_option maxHeartbeats 1000000 in
theorem spec_l1Pick_any (B z : Nat) (v : Value) (l : List ByteArray) (w : World) (c : Cur B w z) (h0 : 0 < l.length) (hr : ∀ w', Drawn B z w w' → Reads w' v (l.map Value.string)) :
    Calls Tryd.prog 97 #[.pointer (some ⟨z, 0, none⟩), v] w fun e w' => ∃ x, e = .returned (Value.string x) ∧ x ∈ l ∧ Drawn B z w w' := by
  have hd := Drawn.start c
  obtain ⟨a, cap, hv, hl, -⟩ := reads_cells (hr w hd)
  obtain ⟨n, hn⟩ : ∃ n, n = l.length := ⟨_, rfl⟩
  rw [List.length_map, ← hn] at hl hv
  rw [← hn] at h0
  subst hv
  have HR := Lib.hid (And.intro hr hn)
  clear hr hn
  go_enter Tryd.func97, Tryd.ntmps97
  go_wp2_with fail
  with_reducible refine (spec_l1Below_any B z n _ c).mono ?_
  rintro e w1 ⟨y, rfl, hy, -, hd1⟩
  have hyn : y < n := by have := hy (by omega); omega
  obtain ⟨a', cap', h0', -, hc⟩ := reads_cells (HR.out.1 w1 hd1)
  obtain ⟨b, o, h1, h2⟩ := hc y (by rw [List.length_map, ← HR.out.2]; exact hyn)
  rw [List.getElem_map] at h2
  obtain ⟨x, hx⟩ : ∃ x, x = l[y]'(by rw [← HR.out.2]; exact hyn) := ⟨_, rfl⟩
  rw [← hx] at h2
  have hmem : x ∈ l := by rw [hx]; exact List.getElem_mem _
  obtain rfl : a = a' := by simp at h0'; exact h0'.1
  subst h1
  clear hx hy hc h0'
  go_wp2
  go_ret
  exact ⟨x, rfl, hmem, hd1⟩
set_option maxHeartbeats 1000000 in
theorem spec_l1PickInt_any (B z : Nat) (v : Value) (l : List Int) (w : World) (c : Cur B w z) (h0 : 0 < l.length) (hr : ∀ w', Drawn B z w w' → Reads w' v (l.map (Value.int .i64))) :
    Calls Tryd.prog 52 #[.pointer (some ⟨z, 0, none⟩), v] w fun e w' => ∃ x, e = .returned ((Value.int .i64) x) ∧ x ∈ l ∧ Drawn B z w w' := by
  have hd := Drawn.start c
  obtain ⟨a, cap, hv, hl, -⟩ := reads_cells (hr w hd)
  obtain ⟨n, hn⟩ : ∃ n, n = l.length := ⟨_, rfl⟩
  rw [List.length_map, ← hn] at hl hv
  rw [← hn] at h0
  subst hv
  have HR := Lib.hid (And.intro hr hn)
  clear hr hn
  go_enter Tryd.func52, Tryd.ntmps52
  go_wp2_with fail
  with_reducible refine (spec_l1Below_any B z n _ c).mono ?_
  rintro e w1 ⟨y, rfl, hy, -, hd1⟩
  have hyn : y < n := by have := hy (by omega); omega
  obtain ⟨a', cap', h0', -, hc⟩ := reads_cells (HR.out.1 w1 hd1)
  obtain ⟨b, o, h1, h2⟩ := hc y (by rw [List.length_map, ← HR.out.2]; exact hyn)
  rw [List.getElem_map] at h2
  obtain ⟨x, hx⟩ : ∃ x, x = l[y]'(by rw [← HR.out.2]; exact hyn) := ⟨_, rfl⟩
  rw [← hx] at h2
  have hmem : x ∈ l := by rw [hx]; exact List.getElem_mem _
  obtain rfl : a = a' := by simp at h0'; exact h0'.1
  subst h1
  clear hx hy hc h0'
  go_wp2
  go_ret
  exact ⟨x, rfl, hmem, hd1⟩
end Go.Proofs.YtdngkfedkgiioaaDoor

/- Contracts: words drawn: some words of bounded length. -/
namespace Go.Proofs.YtdngkfedkgiioaaDoor
open Go.RowKit Go.Cm

/-- the texts of a literal -/
def strsOf : List Value → Option (List ByteArray)
  | [] => some []
  | .string s :: r => (strsOf r).map (s :: ·)
  | _ :: _ => none
theorem strsOf_map : ∀ {c : List Value} {l : List ByteArray}, strsOf c = some l → c = l.map .string
  | [], l, h => by cases h; rfl
  | .string s :: r, l, h => by
    unfold strsOf at h
    cases hr : strsOf r with
    | none => rw [hr] at h; cases h
    | some l' => rw [hr] at h; cases h; rw [strsOf_map hr]; rfl
/-- the numbers of a literal -/
def intsOf : List Value → Option (List Int)
  | [] => some []
  | .int .i64 s :: r => (intsOf r).map (s :: ·)
  | _ :: _ => none
theorem intsOf_map : ∀ {c : List Value} {l : List Int}, intsOf c = some l → c = l.map (.int .i64)
  | [], l, h => by cases h; rfl
  | .int .i64 s :: r, l, h => by
    unfold intsOf at h
    cases hr : intsOf r with
    | none => rw [hr] at h; cases h
    | some l' => rw [hr] at h; cases h; rw [intsOf_map hr]; rfl

/-- a literal reads as it was laid, whatever is drawn -/
theorem lit_reads {B z : Nat} {w : World} {t : TypeId} {cs : Array Value} {l : List Value} {n cap : Nat} (c : Cur B w z) (h : cs.toList = l) (hn : n ≤ l.length) (hc : n ≤ cap) (hm : cap ≤ 1000) :
    ∀ w', Drawn B z (w.alloc (.cells cs t)) w' → Reads w' (.slice (some ⟨w.heap.size, 0, none⟩) n cap) (l.take n) := by
  intro w' hd
  have hl : (l.take n).length = n := by rw [List.length_take]; omega
  refine ⟨some ⟨w.heap.size, 0, none⟩, cap, by rw [hl], by omega, by unfold maxLen; omega, fun i hi => ⟨_, _, rfl, hd.cell (cell_new rfl ?_) (by have := c.lt; dsimp only; omega)⟩⟩
  rw [Nat.zero_add, ← Array.getElem?_toList, h, List.getElem_take, List.getElem?_eq_getElem]
theorem pick_lit {B z : Nat} {w : World} {t : TypeId} {cs : Array Value} {l : List ByteArray} {n cap : Nat} (c : Cur B w z) (h : strsOf cs.toList = some l) (hn0 : 0 < n) (hn : n ≤ l.length) (hc : n ≤ cap) (hm : cap ≤ 1000) (hs : l.all (fun x => decide (x.size ≤ 64)) = true) :
    Calls Tryd.prog 97 #[.pointer (some ⟨z, 0, none⟩), .slice (some ⟨w.heap.size, 0, none⟩) n cap] (w.alloc (.cells cs t)) fun e w' => ∃ x, e = .returned (.string x) ∧ x.size ≤ 64 ∧ Drawn B z w w' := by
  have h0 := strsOf_map h
  refine (spec_l1Pick_any B z _ (l.take n) _ (c.ext (Ext.alloc _ _)) (by rw [List.length_take]; omega) fun w' hd => ?_).mono ?_
  · rw [List.map_take]
    exact lit_reads c h0 (by rw [List.length_map]; exact hn) hc hm w' hd
  · rintro e w' ⟨x, rfl, hx, hd⟩
    rw [List.all_eq_true] at hs
    exact ⟨x, rfl, of_decide_eq_true (hs x (List.mem_of_mem_take hx)), ((Drawn.start c).alloc _).trans hd⟩
/-- a literal whose first n texts are short -/
def litOk (cs : Array Value) (n : Nat) : Bool := match strsOf cs.toList with
  | some l => decide (0 < n) && (decide (n ≤ l.length) && l.all fun x => decide (x.size ≤ 64))
  | none => false
theorem pick_ok {B z : Nat} {w : World} {t : TypeId} {cs : Array Value} {n cap : Nat} (c : Cur B w z) (h : litOk cs n = true) (hc : n ≤ cap) (hm : cap ≤ 1000) :
    Calls Tryd.prog 97 #[.pointer (some ⟨z, 0, none⟩), .slice (some ⟨w.heap.size, 0, none⟩) n cap] (w.alloc (.cells cs t)) fun e w' => ∃ x, e = .returned (.string x) ∧ x.size ≤ 64 ∧ Drawn B z w w' := by
  unfold litOk at h
  cases hs : strsOf cs.toList with
  | none => rw [hs] at h; cases h
  | some l =>
    rw [hs] at h
    simp only [Bool.and_eq_true, decide_eq_true_eq] at h
    exact pick_lit c hs h.1 h.2.1 hc hm h.2.2
theorem pickInt_lit {B z : Nat} {w : World} {t : TypeId} {cs : Array Value} {l : List Int} {n cap : Nat} (c : Cur B w z) (h : intsOf cs.toList = some l) (hn0 : 0 < n) (hn : n ≤ l.length) (hc : n ≤ cap) (hm : cap ≤ 1000) :
    Calls Tryd.prog 52 #[.pointer (some ⟨z, 0, none⟩), .slice (some ⟨w.heap.size, 0, none⟩) n cap] (w.alloc (.cells cs t)) fun e w' => ∃ x, e = .returned (.int .i64 x) ∧ x ∈ l ∧ Drawn B z w w' := by
  have h0 := intsOf_map h
  refine (spec_l1PickInt_any B z _ (l.take n) _ (c.ext (Ext.alloc _ _)) (by rw [List.length_take]; omega) fun w' hd => ?_).mono ?_
  · rw [List.map_take]
    exact lit_reads c h0 (by rw [List.length_map]; exact hn) hc hm w' hd
  · rintro e w' ⟨x, rfl, hx, hd⟩
    exact ⟨x, rfl, List.mem_of_mem_take hx, ((Drawn.start c).alloc _).trans hd⟩

theorem dr_l1Max (a b : Int) (w : World) : Calls Tryd.prog 71 #[.int .i64 a, .int .i64 b] w fun e w' => e = .returned (.int .i64 (if b < a then a else b)) ∧ w = w' := by
  by_cases h : b < a
  · rw [if_pos h]
    go_enter Tryd.func71, Tryd.ntmps71
    go_wp2
    go_ret
    exact ⟨rfl, rfl⟩
  · rw [if_neg h]
    go_enter Tryd.func71, Tryd.ntmps71
    go_wp2
    go_ret
    exact ⟨rfl, rfl⟩
theorem dr_l1Bit (b : Bool) (w : World) : Calls Tryd.prog 73 #[.bool b] w fun e w' => e = .returned (.int .i64 (if b then 1 else 0)) ∧ w = w' := by
  cases b
  · go_enter Tryd.func73, Tryd.ntmps73
    go_wp2
    go_ret
    exact ⟨rfl, rfl⟩
  · go_enter Tryd.func73, Tryd.ntmps73
    go_wp2
    go_ret
    exact ⟨rfl, rfl⟩

/-- a text of bounded length -/
def StrLe (n : Nat) (v : Value) (_ : World) : Prop := ∃ x : ByteArray, v = .string x ∧ x.size ≤ n
theorem StrLe.elim {n : Nat} {v : Value} {w : World} (h : StrLe n v w) {C : Prop} (k : ∀ x : ByteArray, v = .string x → x.size ≤ n → C) : C := by
  obtain ⟨x, h1, h2⟩ := h
  exact k x h1 h2
end Go.Proofs.YtdngkfedkgiioaaDoor

/- The bytes of a draw, kept. -/
namespace Go.Proofs.YtdngkfedkgiioaaDoor
open Go.RowKit Go.Cm
/-- the bytes of the draw lie below B -/
def OldB (B : Nat) (w : World) (v : Value) (xs : List UInt8) : Prop := B ≤ w.heap.size ∧ ∀ w', (∀ k, k < B → w'.heap[k]? = w.heap[k]?) → ReadsB w' v xs
theorem OldB.start {w : World} {v : Value} {xs : List UInt8} (h : ReadsB w v xs) : OldB w.heap.size w v xs := ⟨Nat.le_refl _, fun _ hb => Reads.old h hb⟩
theorem OldB.ext {B : Nat} {w w1 : World} {v : Value} {xs : List UInt8} (h : OldB B w v xs) (hx : Ext w w1) : OldB B w1 v xs :=
  ⟨Nat.le_trans h.1 hx.size, fun w' hb => h.2 w' fun k hk => (hb k hk).trans (hx.block k (Nat.lt_of_lt_of_le hk h.1))⟩
theorem OldB.new {B : Nat} {w : World} {v : Value} {xs : List UInt8} (h : OldB B w v xs) :
    Calls Tryd.prog 46 #[v] w fun e w' => ∃ z, e = .returned (.pointer (some ⟨z, 0, none⟩)) ∧ w.heap.size ≤ z ∧ Cur B w' z ∧ Ext w w' := spec_l1New_any B v xs w h.1 h.2
end Go.Proofs.YtdngkfedkgiioaaDoor

/- Contract: is a draw too long. -/
namespace Go.Proofs.YtdngkfedkgiioaaDoor
open Go.RowKit Go.Cm

theorem laws_big_any (v : Value) (xs : List UInt8) (w : World) (h : ReadsB w v xs) :
    Calls Tryd.prog 5 #[v] w fun e w' => ∃ b : Bool, e = .returned (.bool b) ∧ w = w' := by
  obtain ⟨a, cap, rfl, hl, hm⟩ := h
  have hm := hm.1
  unfold maxLen at hm
  have hn : (xs.map fun c => Value.int .u8 (c.toNat : Int)).length ≤ 9223372036854775807 := by omega
  obtain ⟨n, hn'⟩ : ∃ n, n = (xs.map fun c => Value.int .u8 (c.toNat : Int)).length := ⟨_, rfl⟩
  rw [← hn'] at hn ⊢
  clear hl hn'
  go_enter Tryd.func5, Tryd.ntmps5
  go_wp2
  go_ret
  exact ⟨_, rfl, rfl⟩
end Go.Proofs.YtdngkfedkgiioaaDoor

