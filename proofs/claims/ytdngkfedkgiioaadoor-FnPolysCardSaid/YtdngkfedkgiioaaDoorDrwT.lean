/- Contracts: tables and lists of numbers drawn. -/
import Derived.Test.YtdngkfedkgiioaaDoorPkR
import Derived.Test.YtdngkfedkgiioaaDoorPkP
import Derived.Test.YtdngkfedkgiioaaDoorPkC
namespace Go
open Go.RowKit
/-- the same memory, its first blocks alone -/
def cutW (w : World) (n : Nat) : World := { w with heap := w.heap.extract 0 n }
theorem cutW_size (w : World) (n : Nat) (h : n ≤ w.heap.size) : (cutW w n).heap.size = n := by
  show (w.heap.extract 0 n).size = n
  rw [Array.size_extract]; omega
theorem cutW_ext (w : World) (n : Nat) (h : n ≤ w.heap.size) : Ext (cutW w n) w :=
  ⟨rfl, rfl, rfl, by rw [cutW_size w n h]; exact h, fun k hk => by
    rw [cutW_size w n h] at hk
    show w.heap[k]? = (w.heap.extract 0 n)[k]?
    rw [Array.getElem?_extract]
    simp [Nat.min_eq_left h, hk]⟩
end Go
namespace Go.Proofs.YtdngkfedkgiioaaDoor
open Go.RowKit Go.Cm Go.Mx

theorem Drawn.own {B z g : Nat} {a b c : World} (h : Drawn B z a b) (hg : b.grownBy c (some g)) (hb : a.heap.size ≤ g) : Drawn B z a c :=
  have hlt := h.lt
  have hlow := h.low
  ⟨h.low, h.lt, grown_past h.grown hg (fun x e => by cases e; exact hb), h.cur.kept hg (fun e => by have := Option.some.inj e; omega) (fun k e => by cases e; omega)⟩
theorem Drawn.size {B z : Nat} {a b : World} (h : Drawn B z a b) : a.heap.size ≤ b.heap.size := h.grown.size
theorem Drawn.row {B z : Nat} {a b : World} (h : Drawn B z a b) {B' : Nat} {E : TypeId} {g n c : Nat} {fs : List Value} (k : Own a B' E (.slice (some ⟨g, 0, none⟩) n c) fs) (hne : g ≠ z) : Own b B' E (.slice (some ⟨g, 0, none⟩) n c) fs :=
  GB.own h.grown k (by
    intro q hq e
    simp [Value.ownBlock] at hq
    have := Option.some.inj e
    omega)
theorem Drawn.tab {B z : Nat} {a b : World} (h : Drawn B z a b) {B' : Nat} {T E : TypeId} {g n c : Nat} {gs cs : Nat → Nat} {m : List (List Int)} (k : MTab a B' T E g n c gs cs m) (hz : z < B') : MTab b B' T E g n c gs cs m := by
  have h1 := k.lt
  refine k.gb h.grown ?_ fun i hi => ?_
  · intro e
    have := Option.some.inj e
    omega
  · have := k.rowlt i hi
    intro e
    have := Option.some.inj e
    omega

/-- a literal of numbers, laid by the region itself -/
def LitI (B z : Nat) (l : List Int) (n : Nat) (v : Value) (w : World) : Prop := Cur B w z ∧ ∃ b, v = .slice (some ⟨b, 0, none⟩) n n ∧ ∀ w', Drawn B z w w' → Reads w' v (l.map (.int .i64))
theorem LitI.ok {B z : Nat} (l : List Int) (n : Nat) (v : Value) (w w' : World) (h : (drawRel B z).r w w') (k : LitI B z l n v w) : LitI B z l n v w' := by
  obtain ⟨c, b, hv, hr⟩ := k
  have hd : Drawn B z w w' := h c
  exact ⟨hd.cur, b, hv, fun w'' h' => hr w'' (hd.trans h')⟩
theorem LitI.elim {B z : Nat} {l : List Int} {n : Nat} {v : Value} {w : World} (h : LitI B z l n v w) {C : Prop} (k : ∀ b, v = .slice (some ⟨b, 0, none⟩) n n → (∀ w', Drawn B z w w' → Reads w' (.slice (some ⟨b, 0, none⟩) n n) (l.map (.int .i64))) → C) : C := by
  obtain ⟨c, b, hv, hr⟩ := h
  exact k b hv (fun w' hd => hv ▸ hr w' hd)
theorem LitI.new {B z : Nat} {w : World} {t : TypeId} {cs : Array Value} {l : List Int} {n : Nat} (c : Cur B w z) (h : intsOf cs.toList = some l) (hn : n = l.length) (hm : n ≤ 1000) : Drawn B z w (w.alloc (.cells cs t)) ∧ LitI B z l n (.slice (some ⟨w.heap.size, 0, none⟩) n n) (w.alloc (.cells cs t)) := by
  refine ⟨(Drawn.start c).alloc _, c.ext (Ext.alloc _ _), _, rfl, fun w' hd => ?_⟩
  have h1 := lit_reads c (intsOf_map h) (n := n) (cap := n) (by rw [List.length_map]; omega) (Nat.le_refl _) hm w' hd
  rwa [List.take_of_length_le (by rw [List.length_map]; omega)] at h1
/-- one of some numbers -/
def IntIn (l : List Int) (v : Value) (_ : World) : Prop := ∃ y, y ∈ l ∧ v = .int .i64 y
theorem IntIn.elim {l : List Int} {v : Value} {w : World} (h : IntIn l v w) {C : Prop} (k : ∀ y : Int, y ∈ l → v = .int .i64 y → C) : C := by
  obtain ⟨y, h1, h2⟩ := h
  exact k y h1 h2
theorem LitI.pick {B z n b : Nat} {l : List Int} {w : World} (c : Cur B w z) (h0 : 0 < l.length) (h : ∀ w', Drawn B z w w' → Reads w' (.slice (some ⟨b, 0, none⟩) n n) (l.map (.int .i64))) :
    Calls Tryd.prog 52 #[.pointer (some ⟨z, 0, none⟩), .slice (some ⟨b, 0, none⟩) n n] w fun e w'' => ∃ v, e = .returned v ∧ Drawn B z w w'' ∧ IntIn l v w'' :=
  (spec_l1PickInt_any B z _ _ _ c h0 h).mono (by rintro e w'' ⟨x, rfl, hm, hd'⟩; exact ⟨_, rfl, hd', x, hm, rfl⟩)
/-- a number below n, and some number -/
def BelJ (n : Nat) (v : Value) (_ : World) : Prop := ∃ q : Nat, q < n ∧ v = .int .i64 q
theorem BelJ.elim {n : Nat} {v : Value} {w : World} (h : BelJ n v w) {C : Prop} (k : ∀ q : Nat, q < n → v = .int .i64 q → C) : C := by
  obtain ⟨y, h1, h2⟩ := h
  exact k y h1 h2
def NumJ (v : Value) (_ : World) : Prop := ∃ y : Int, v = .int .i64 y

/-- a square table -/
def Sh (n : Nat) (T : List (List Int)) : Prop := T.length = n ∧ ∀ i, i < n → (T.getD i []).length = n
theorem Sh.set {n : Nat} {T : List (List Int)} (h : Sh n T) (i j : Nat) (x : Int) : Sh n (setM T i j x) := by
  refine ⟨by rw [setM_length]; exact h.1, fun k hk => ?_⟩
  unfold setM
  by_cases e : i = k
  · subst e
    have hi : i < T.length := by rw [h.1]; exact hk
    rw [List.getD_eq_getElem?_getD, List.getElem?_set_self hi]
    simp only [Option.getD_some, List.length_set]
    exact h.2 i hk
  · rw [List.getD_eq_getElem?_getD, List.getElem?_set_ne e, ← List.getD_eq_getElem?_getD]
    exact h.2 k hk
theorem Sh.zero (n : Nat) : Sh n (tabF n n fun _ _ => 0) := ⟨tabF_length _ _ _, fun i hi => by rw [tabF_row _ _ _ _ hi, rowF_length]⟩
theorem Sh.ofMat {T : List (List Int)} (h : isMat T = true) : Sh T.length T ∧ 1 ≤ T.length ∧ T.length ≤ 9 := by
  have := isMat_yes h
  exact ⟨⟨rfl, this.row⟩, this.pos, this.le⟩
/-- a table that was drawn, each row in a block of its own -/
def TabD (w : World) (B : Nat) (u : Value) (T : List (List Int)) : Prop := ∃ g cap gs cs, u = .slice (some ⟨g, 0, none⟩) T.length cap ∧ MTab w B 26 3 g T.length cap gs cs T

theorem spec_l1Pick_mem {B z : Nat} {w : World} {t : TypeId} {cs : Array Value} {l : List ByteArray} {n : Nat} (c : Cur B w z) (h : strsOf cs.toList = some l) (hn0 : 0 < n) (hn : n = l.length) (hm : n ≤ 1000) :
    Calls Tryd.prog 97 #[.pointer (some ⟨z, 0, none⟩), .slice (some ⟨w.heap.size, 0, none⟩) n n] (w.alloc (.cells cs t)) fun e w' => ∃ x, e = .returned (.string x) ∧ x ∈ l ∧ Drawn B z w w' := by
  have h0 := strsOf_map h
  refine (spec_l1Pick_any B z _ l _ (c.ext (Ext.alloc _ _)) (by omega) fun w' hd => ?_).mono ?_
  · have h1 := lit_reads c h0 (n := n) (cap := n) (by rw [List.length_map]; omega) (Nat.le_refl _) hm w' hd
    rwa [List.take_of_length_le (by rw [List.length_map]; omega)] at h1
  · rintro e w' ⟨x, rfl, hx, hd⟩
    exact ⟨x, rfl, hx, ((Drawn.start c).alloc _).trans hd⟩

theorem twelve_lit : strsOf (#[.string ⟨#[49, 44, 49, 47, 49, 44, 48]⟩, .string ⟨#[50]⟩, .string ⟨#[49, 44, 49, 47, 49, 44, 49]⟩, .string ⟨#[48, 44, 49, 47, 49, 44, 48]⟩, .string ⟨#[48, 44, 49, 44, 48, 47, 48, 44, 48, 44, 49, 47, 49, 44, 49, 44, 48]⟩, .string ⟨#[49, 44, 49, 44, 48, 47, 48, 44, 49, 44, 49, 47, 49, 44, 48, 44, 49]⟩, .string ⟨#[49, 44, 48, 47, 49, 44, 49]⟩, .string ⟨#[48, 44, 49, 47, 48, 44, 48]⟩, .string ⟨#[51]⟩, .string ⟨#[49, 44, 50, 47, 49, 44, 48]⟩, .string ⟨#[48]⟩, .string ⟨#[48, 44, 50, 47, 49, 44, 48]⟩] : Array Value).toList = some (twelveT.map mkS) := by kernel_rfl
theorem spec_pickTwelve (B z : Nat) (w : World) (c : Cur B w z) :
    Calls Tryd.prog 97 #[.pointer (some ⟨z, 0, none⟩), .slice (some ⟨w.heap.size, 0, none⟩) 12 12] (w.alloc (.cells #[.string ⟨#[49, 44, 49, 47, 49, 44, 48]⟩, .string ⟨#[50]⟩, .string ⟨#[49, 44, 49, 47, 49, 44, 49]⟩, .string ⟨#[48, 44, 49, 47, 49, 44, 48]⟩, .string ⟨#[48, 44, 49, 44, 48, 47, 48, 44, 48, 44, 49, 47, 49, 44, 49, 44, 48]⟩, .string ⟨#[49, 44, 49, 44, 48, 47, 48, 44, 49, 44, 49, 47, 49, 44, 48, 44, 49]⟩, .string ⟨#[49, 44, 48, 47, 49, 44, 49]⟩, .string ⟨#[48, 44, 49, 47, 48, 44, 48]⟩, .string ⟨#[51]⟩, .string ⟨#[49, 44, 50, 47, 49, 44, 48]⟩, .string ⟨#[48]⟩, .string ⟨#[48, 44, 50, 47, 49, 44, 48]⟩] 9)) fun e w' => ∃ x, e = .returned (.string x) ∧ x ∈ twelveT.map mkS ∧ Drawn B z w w' :=
  spec_l1Pick_mem c twelve_lit (by omega) rfl (by omega)

set_option maxRecDepth 100000 in
set_option maxHeartbeats 4000000 in
theorem spec_l4Draw_any (B z : Nat) (most : Nat) (w : World) (c : Cur B w z) (h1 : 1 ≤ most) (h9 : most ≤ 9) :
    Calls Tryd.prog 81 #[.pointer (some ⟨z, 0, none⟩), .int .i64 most] w fun e w' => ∃ u T n, e = .returned u ∧ 1 ≤ n ∧ n ≤ 9 ∧ Sh n T ∧ TabD w' w.heap.size u T ∧ Drawn B z w w' := by
  have hlt := c.lt
  have hd := Drawn.start c
  go_enter Tryd.func81, Tryd.ntmps81
  go_wp2_with fail
  with_reducible refine (spec_l1Once_any B z _ _ hd.cur).mono ?_
  rintro e w1 ⟨b, rfl, hd2⟩
  replace hd := hd.trans hd2
  clear hd2
  cases b
  · go_wp2_with fail
    with_reducible refine (spec_l1Below_any B z _ _ hd.cur).mono ?_
    rintro e w2 ⟨y, rfl, hy, -, hd2⟩
    replace hd := hd.trans hd2
    have hy : y < 9 := by have := hy (by omega); omega
    clear hd2
    go_wp2_with fail
    obtain ⟨n, hn⟩ : ∃ n, n = 1 + y := ⟨_, rfl⟩
    have hni : 1 + (y : Int) = (n : Int) := by omega
    have hzr := fun w => spec_l4Zero_any n n w (by omega) (by omega)
    have HZ := Lib.hid hzr
    clear hzr
    rw [hni]
    have hn1 : 1 ≤ n := by omega
    have hn9 : n ≤ 9 := by omega
    clear hni hn hy
    with_reducible refine (HZ.out _).mono ?_
    rintro e w3 ⟨g, cap, gs, cs, rfl, ht, hx⟩
    have hsz := hd.size
    replace ht := ht.mono hsz
    replace hd := hd.ext hx
    have hSh := Sh.zero n
    have hTl := hSh.1
    obtain ⟨T0, hT0⟩ : ∃ T, T = tabF n n fun _ _ => (0 : Int) := ⟨_, rfl⟩
    rw [← hT0] at ht hSh hTl
    clear hx hT0 hsz
    go_wp2
    go_loopw [9] (fun q wr => ∃ (k : Nat) (T : List (List Int)), k ≤ n ∧ q = .int .i64 k ∧ Sh n T ∧ MTab wr w.heap.size 26 3 g n cap gs cs T ∧ Drawn B z w wr) (fun q _ => n - (intOf q).toNat)
    case atStart => exact ⟨0, T0, by omega, rfl, hSh, ht, hd⟩
    case round =>
      clear hSh ht hd hTl
      obtain ⟨i, T, hi, rfl, hSh, ht, hd⟩ := hrel
      obtain ⟨wm, rfl⟩ : ∃ wm : World, wm = wr := ⟨_, rfl⟩
      by_cases hlti : i < n
      · go_wp2
        go_loopw [10] (fun q wr => ∃ (k : Nat) (T : List (List Int)), k ≤ n ∧ q = .int .i64 k ∧ Sh n T ∧ MTab wr w.heap.size 26 3 g n cap gs cs T ∧ Drawn B z w wr) (fun q _ => n - (intOf q).toNat)
        case atStart => exact ⟨0, T, by omega, rfl, hSh, ht, hd⟩
        case round =>
          clear hSh ht hd
          obtain ⟨j, T, hj, rfl, hSh, ht, hd⟩ := hrel
          by_cases hltj : j < n
          · have hgl := ht.lt
            have hgc := ht.caps
            have hrl := ht.rowlt i (by rw [hSh.1]; exact hlti)
            have hrc := (ht.row i (by rw [hSh.1]; exact hlti)).caps
            have hsp := ht.spot i (by rw [hSh.1]; exact hlti)
            rw [hSh.2 i hlti] at hsp hrc
            obtain ⟨G, hG⟩ : ∃ G, G = gs i := ⟨_, rfl⟩
            rw [← hG] at hsp hrl
            obtain ⟨Cc, hC⟩ : ∃ C, C = cs i := ⟨_, rfl⟩
            rw [← hC] at hsp hrc
            have hzg : z < g := by omega
            have HT := Lib.hid (And.intro ht (And.intro hSh (And.intro hG hd)))
            have hcurr := hd.cur
            clear ht hSh hG hC hd
            go_wp2
            refine wp_region_tailR (R := (drawRel B z)) (by kernel_rfl) 9 (.known ?hx5_9_v0 :: .known ?hx5_9_v1 :: .known ?hx5_9_v2 :: .known ?hx5_9_v3 :: .known ?hx5_9_v4 :: .known ?hx5_9_v5 :: .such (LitI B z [0, 1, 0, 1, 2] 5) (LitI.ok _ _) :: .such (IntIn [0, 1, 0, 1, 2]) (fun _ _ _ _ h => h) :: .known ?hx5_9_v8 :: []) rfl (by decide) (by kernel_rfl) (by kernel_rfl) ?hx5_9_s ?hx5_9_p
            case hx5_9_s =>
              intro vs
              refine ⟨fun w' hxw hj => ?_, fun w' hxw hj => ?_, fun w' hxw hj => ?_, fun w' hxw hj => ?_, fun w' hxw hj => ?_, fun w' hxw hj => ?_, fun w' hxw hj => ?_, fun w' hxw hj => ?_, fun w' hxw hj => ?_, trivial⟩
              · have hdw := hxw hcurr
                have hcw := hdw.cur
                have hsp := Drawn.cell hdw hsp (by dsimp only; omega)
                clear hj hxw
                go_simp
                try go_bits
                refine ⟨Drawn.start hcw, ?_⟩
                rfl
              · have hdw := hxw hcurr
                have hcw := hdw.cur
                have hsp := Drawn.cell hdw hsp (by dsimp only; omega)
                clear hj hxw
                go_simp
                try go_bits
                refine ⟨Drawn.start hcw, ?_⟩
                rfl
              · have hdw := hxw hcurr
                have hcw := hdw.cur
                have hsp := Drawn.cell hdw hsp (by dsimp only; omega)
                clear hj hxw
                go_simp
                try go_bits
                refine ⟨Drawn.start hcw, ?_⟩
                rfl
              · have hdw := hxw hcurr
                have hcw := hdw.cur
                have hsp := Drawn.cell hdw hsp (by dsimp only; omega)
                clear hj hxw
                go_simp
                try go_bits
                refine ⟨Drawn.start hcw, ?_⟩
                rfl
              · have hdw := hxw hcurr
                have hcw := hdw.cur
                have hsp := Drawn.cell hdw hsp (by dsimp only; omega)
                clear hj hxw
                go_simp
                try go_bits
                refine ⟨Drawn.start hcw, ?_⟩
                rfl
              · have hdw := hxw hcurr
                have hcw := hdw.cur
                have hsp := Drawn.cell hdw hsp (by dsimp only; omega)
                clear hj hxw
                go_simp
                try go_bits
                refine ⟨Drawn.start hcw, ?_⟩
                rfl
              · have hdw := hxw hcurr
                have hcw := hdw.cur
                have hsp := Drawn.cell hdw hsp (by dsimp only; omega)
                clear hj hxw
                go_simp
                try go_bits
                exact LitI.new hcw rfl rfl (by omega)
              · have hdw := hxw hcurr
                have hcw := hdw.cur
                have hsp := Drawn.cell hdw hsp (by dsimp only; omega)
                have k6 : LitI B z [0, 1, 0, 1, 2] 5 (vs 6) w' := hj 6 (by kernel_rfl)
                apply LitI.elim k6
                intro bb hbb hrd
                clear k6
                clear hj hxw
                go_simp
                try go_bits
                exact ⟨Drawn.start hcw, LitI.pick hcw (by decide) hrd⟩
              · have hdw := hxw hcurr
                have hcw := hdw.cur
                have hsp := Drawn.cell hdw hsp (by dsimp only; omega)
                clear hj hxw
                go_simp
                try go_bits
                refine ⟨Drawn.start hcw, ?_⟩
                rfl
            case' hx5_9_p =>
              intro vs w5 hx5 hk
              replace hx5 := hx5 hcurr
              have k6 : (LitI B z [0, 1, 0, 1, 2] 5) (vs 6) w5 := hk 6 _ rfl
              have k7 : (IntIn [0, 1, 0, 1, 2]) (vs 7) w5 := hk 7 _ rfl
              clear hk
              replace hsp := Drawn.cell hx5 hsp (by dsimp only; omega)
              go_simp
            obtain ⟨x, hxm, hx⟩ := k7
            rw [hx]
            clear k6 hx hxm
            have hil : i < T.length := by rw [HT.out.2.1.1]; exact hlti
            have ht5 := hx5.tab HT.out.1 hlt
            have hce := ht5.at i j hil (by rw [HT.out.2.1.2 i hlti]; exact hltj)
            have hfr := ht5.frozen i j hil
            have hts := ht5.set i j hil x
            have hds := (HT.out.2.2.2.trans hx5).store (p := ⟨gs i, j, none⟩) (by rw [← HT.out.2.2.1]; exact hrl.1) (.int .i64 x)
            rw [← HT.out.2.2.1] at hce hfr hts hds
            have HS := Lib.hid (And.intro hts (And.intro hds (HT.out.2.1.set i j x)))
            clear ht5 hts hds hsp hx5 hcurr
            go_wp2
            go_roundw
            case rel => exact ⟨j + 1, _, by omega, by go_num, HS.out.2.2, HS.out.1, HS.out.2.1⟩
            case measure => simp [intOf]; omega
          · go_wp2
            go_roundw
            case rel => exact ⟨i + 1, T, by omega, by go_num, hSh, ht, hd⟩
            case measure => simp [intOf]; omega
      · go_wp2
        go_ret
        exact ⟨.slice (some ⟨g, 0, none⟩) n cap, T, n, rfl, by omega, by omega, hSh, ⟨g, cap, gs, cs, by rw [hSh.1], by rw [hSh.1]; exact ht⟩, hd⟩
  · go_wp2_with fail
    with_reducible refine (spec_pickTwelve _ _ _ hd.cur).mono ?_
    rintro e w2 ⟨x, rfl, hxm, hd2⟩
    replace hd := hd.trans hd2
    obtain ⟨s, hs, rfl⟩ := List.mem_map.1 hxm
    obtain ⟨hs1, hs2, hs3⟩ := twelve_ok s hs
    have hsz := hd.size
    have hpm := fun w => spec_ParseMatrix_dig s w (by omega) hs1 hs2
    obtain ⟨hSh, hl1, hl9⟩ := Sh.ofMat hs2
    obtain ⟨T, hT⟩ : ∃ T, T = valT s := ⟨_, rfl⟩
    obtain ⟨p, hp⟩ : ∃ p, p = mkS s := ⟨_, rfl⟩
    rw [← hT] at hpm hSh hl1 hl9
    rw [← hp] at hpm ⊢
    have HP := Lib.hid hpm
    clear hpm hT hs1 hs2 hs3 hs hp hd2
    go_wp2_with fail
    with_reducible refine (HP.out _).mono ?_
    rintro e w3 ⟨u, rfl, hu, hx⟩
    replace hu := hu.mono hsz
    rcases hu with ⟨-, hn⟩ | ⟨g, cap, gs, cs, rfl, ht⟩
    · rw [hn] at hl1; simp at hl1
    · replace hd := hd.ext hx
      have HR := Lib.hid (And.intro ht hSh)
      clear ht hSh hx
      go_wp2
      go_ret
      exact ⟨.slice (some ⟨g, 0, none⟩) T.length cap, T, T.length, rfl, hl1, hl9, HR.out.2, ⟨g, cap, gs, cs, rfl, HR.out.1⟩, hd⟩
end Go.Proofs.YtdngkfedkgiioaaDoor
