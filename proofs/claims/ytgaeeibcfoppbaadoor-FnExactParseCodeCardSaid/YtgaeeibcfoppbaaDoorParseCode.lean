/- For every text the law FnExactParseCode returns true (the tied card). No conditions. -/
import Derived.Test.YtgaeeibcfoppbaaDoorPcD
import Derived.Test.YtgaeeibcfoppbaaDoorLawCode
import Derived.Test.YtgaeeibcfoppbaaDoorLaidTab
import Derived.Test.YtgaeeibcfoppbaaDoorOpen
import Derived.Test.YtgaeeibcfoppbaaDoorTie
import Derived.Test.YtgaeeibcfoppbaaDoorCards
import Derived.LaidLaws
import Derived.LaidMore
import Derived.LaidHandle
import Derived.SevenTiedAt
import Derived.Lay
import Derived.Stop.Joined
namespace Go.Proofs.YtgaeeibcfoppbaaDoor
open Go.ChangeShapes Go.WideShapes Go.ChangeAt Go.RowKit Go.Cm
open Go.ChangeMaps (open_string shut_string)

/-- what the walk asks of the library's variables -/
def MTE (w : World) : Prop := MaxC w ∧ TabC w ∧ ErrC w
theorem MTE.ext {w w' : World} (h : MTE w) (hx : Ext w w') : MTE w' := ⟨h.1.ext hx, h.2.1.ext hx, h.2.2.ext hx⟩

theorem parse_both (l : List UInt8) (hl : l.length ≤ 1048576) : ∃ (x y : Int) (o : ByteArray) (b : Bool),
    (∀ w, Calls Tryd.prog 4 #[.string (mkS l)] w fun e w' => e = .returned (.tuple #[.agg #[.int .i64 x, .int .i64 y, .string o], .bool b]) ∧ Ext w w') ∧
    (∀ w, MTE w → Calls Tryd.prog 5 #[.string (mkS l)] w fun e w' => e = .returned (.tuple #[.agg #[.int .i64 x, .int .i64 y, .string o], .bool b]) ∧ Ext w w') := by
  cases hp : parseC l with
  | none =>
    refine ⟨0, 0, ⟨#[]⟩, false, fun w => (spec_ParseCode_any l w hl).mono ?_, fun w h => (impl_ParseCode_any l w hl h.1 h.2.1 h.2.2).mono ?_⟩
    · rintro e w' (⟨k, n, o, h1, _⟩ | ⟨_, h2, h3⟩)
      · rw [hp] at h1; cases h1
      · exact ⟨h2, h3⟩
    · rintro e w' (⟨k, n, o, h1, _⟩ | ⟨_, h2, h3⟩)
      · rw [hp] at h1; cases h1
      · exact ⟨h2, h3⟩
  | some r =>
    obtain ⟨k, n, o⟩ := r
    refine ⟨k, n, o, true, fun w => (spec_ParseCode_any l w hl).mono ?_, fun w h => (impl_ParseCode_any l w hl h.1 h.2.1 h.2.2).mono ?_⟩
    · rintro e w' (⟨k', n', o', h1, h2, _, h3⟩ | ⟨h1, _⟩)
      · rw [hp] at h1
        cases h1
        exact ⟨h2, h3⟩
      · rw [hp] at h1; cases h1
    · rintro e w' (⟨k', n', o', h1, h2, _, h3⟩ | ⟨h1, _⟩)
      · rw [hp] at h1
        cases h1
        exact ⟨h2, h3⟩
      · rw [hp] at h1; cases h1

set_option maxHeartbeats 2000000 in
theorem exactParseCode_any (s : ByteArray) (w : World) (hs : s.size ≤ maxLen) (hm : MTE w) :
    Calls Tryd.prog 3 #[.string s] w fun e w' => e = .returned (.bool true) ∧ Ext w w' := by
  have hs' : s.size ≤ 9223372036854775807 := by unfold maxLen at hs; omega
  by_cases hbig : 1048576 < s.size
  · go_enter Tryd.func3, Tryd.ntmps3
    go_wp2
    go_ret
    exact ⟨rfl, Ext.refl _⟩
  obtain ⟨x, y, o, b, hspec, himpl⟩ := parse_both s.data.toList (by
    have h : (mkS s.data.toList).size = s.data.toList.length := mkS_size _
    rw [mkS_data_self] at h
    omega)
  rw [mkS_data_self] at hspec himpl
  have H1 := Lib.hid hspec
  have H2 := Lib.hid (And.intro himpl hm)
  clear hspec himpl hs hm
  have hbb : (b != b) = false := by cases b <;> rfl
  go_enter Tryd.func3, Tryd.ntmps3
  go_wp2_with fail
  with_reducible refine (H1.out _).mono ?_
  rintro e w1 ⟨rfl, hx⟩
  have hb1 : Blk (w1.alloc (.cells #[.int .i64 x, .int .i64 y, .string o] 23)) w1.heap.size #[.int .i64 x, .int .i64 y, .string o] := by (repeat (first | (refine Blk.mk' ?_; (simp; done)) | apply Blk.old))
  have hxa := hx.trans (Ext.alloc w1 (.cells #[.int .i64 x, .int .i64 y, .string o] 23))
  have HX := Lib.hid hxa
  clear hx hxa
  go_wp2_with fail
  with_reducible refine (H2.out.1 _ (H2.out.2.ext HX.out)).mono ?_
  rintro e w2 ⟨rfl, hy⟩
  replace hb1 := hb1.ext hy
  have hx2 := HX.out.trans hy
  have hb2 : Blk (w2.alloc (.cells #[.int .i64 x, .int .i64 y, .string o] 23)) w2.heap.size #[.int .i64 x, .int .i64 y, .string o] := by (repeat (first | (refine Blk.mk' ?_; (simp; done)) | apply Blk.old))
  have hx3 := hx2.trans (Ext.alloc w2 (.cells #[.int .i64 x, .int .i64 y, .string o] 23))
  replace hb1 := hb1.ext (Ext.alloc w2 (.cells #[.int .i64 x, .int .i64 y, .string o] 23))
  obtain ⟨a0, a1, a2, -, -, -⟩ := hb1.c3
  obtain ⟨d0, d1, d2, -, -, -⟩ := hb2.c3
  clear hb1 hb2 hy hx2
  go_wp2_with fail
  refine (eqCode_same _ _ _ _).mono ?_
  rintro e w5 ⟨rfl, hx5⟩
  have hx6 := Ext.trans hx3 hx5
  clear hx3 hx5
  go_wp2
  go_ret
  exact ⟨rfl, hx6⟩

set_option maxRecDepth 100000 in
set_option linter.unusedVariables false in
theorem fnExactParseCode_lifted (os : Os) (started : os.Started) (H : Type) (enc : TypeId × Value → H) :
    ReturnsInHanded {} Tryd.checked os 3 .any (fun w args => (Rows.fnExactParseCodeSpec.pre enc Tryd.prog Tryd.f3 [] false w args ∧ laidMetH Tryd.prog Rows.fnExactParseCodeRow.laid w) ∧ sizedMet enc Tryd.prog Tryd.f3 (OpenSpec.ofChange Rows.fnExactParseCodeSpec) false w args) (Rows.fnExactParseCodeSpec.post enc Tryd.prog Tryd.f3 false true false false) := by
  refine handed_and_shaped (C := Tryd.checked) (X := fun w _ => laidMetH Tryd.prog Rows.fnExactParseCodeRow.laid w) (fun _ _ _ hh h => h.of_heap hh) own started (by kernel_rfl) Tryd.func3
    (ChangeSpec.witness_shaped (enc := enc) (C := Tryd.checked) (os := os) (X := fun w _ => laidMetH Tryd.prog Rows.fnExactParseCodeRow.laid w) false (World.laidAll Tryd.prog os Rows.fnExactParseCodeRow.laid) #[.string ⟨#[]⟩] 8 (World.laidAll_os _ _ _) (World.shaped_of_ZipB (by kernel_rfl) (by kernel_rfl)) (by kernel_rfl) (by kernel_rfl) (by kernel_rfl) (by rw [MakeChecks.laidMetH_plain _ _ _ (by kernel_rfl)]; exact laidMet_laidAll _ (by kernel_rfl) (by kernel_rfl))) ?_
  intro W base args ds gs before hval0 hW hcnd _ hL hsh _
  have hval : ∀ (j : Nat) t v, Tryd.f3.params[j]? = some t → args[j]? = some v → Value.okWide Tryd.prog W .any base t v := hval0
  have hW' := hW
  obtain ⟨p, q, hA0, hV, rfl, hfz, hnd⟩ := hW
  have hA : DataW.TrodAll enc Tryd.prog W 0 (fun _ => true) true Tryd.f3.params.toList args.toList ds p := hA0
  rw [Tryd.params3] at hA hval
  obtain ⟨v0, vs0, d0, ds0, p0, q0, hargs, rfl, rfl, h0, r0⟩ := trodAll_cons hA
  obtain ⟨rfl, rfl, rfl⟩ := trodAll_nil r0
  obtain rfl : args = #[v0] := by cases args; simp_all
  obtain ⟨rfl, rfl⟩ := trodVars_none hV
  have k0 := h0
  have lt0 : ∀ x ∈ p0, x.block < W.heap.size := by obtain ⟨m, hm⟩ := k0; exact DataW.trod_lt m _ _ _ hm
  obtain ⟨a0, rfl, rfl, rfl, hs0⟩ := open_string Tryd.underlying9 (hval 0 9 v0 rfl rfl) h0
  clear hA0 hval0
  refine (exactParseCode_any a0 W hs0 ⟨MaxC.of6 hsh, tabC_of 2 hL (by rfl) (by rfl), errC_of 5 4 hL (by rfl) (by rfl) (by rfl)⟩).mono fun e W' ⟨he, bel⟩ => ?_
  subst he
  exact ⟨_, rfl, _, _, _, [], _, [], hW', trodAll_mk1 (shut_bool Tryd.underlying4 _), (trodAll_cons_mk (Below.trod laidOut (by kernel_rfl) (of_decide_eq_true (by kernel_rfl)) k0 bel lt0) trodAll_mk0), rfl, Below.frame bel _, fun h => by cases h⟩

theorem fnExactParseCode_holds : Rows.FnExactParseCodeSaid :=
  OpenClaim.holds_of_wide 3 Tryd.f3 rfl rfl rfl rfl rfl rfl rfl ⟨rfl, rfl, rfl, rfl, rfl⟩ rfl rfl rfl rfl rfl (by kernel_rfl) Tryd.func3 (by kernel_rfl)
    (of_decide_eq_true (by kernel_rfl)) (by unfold Func.isWrapper; first | (rw [if_pos (by decide +kernel)]; kernel_rfl) | (rw [if_neg (by decide +kernel)]; exact ⟨rfl, rfl⟩))
    (fun os started H enc _ => fnExactParseCode_lifted os started H enc)

theorem fnExactParseCode_card : Rows.FnExactParseCodeCardSaid :=
  Claim7.holds_tied_plain_at .later [] [.data, .data, .data, .data, .sentinel, .sentinel, .pinned] true (true, "68d2f9a4e105d73917efc2dda0af9c8d648a9a1f0e8270c7eb40cf99de7f5a5c") true
    fnExactParseCode_holds (fun _ h => by cases h) (by kernel_rfl) (fun _ h => by cases h) fnExactParseCode_row_tie rfl ⟨rfl, rfl⟩ (by kernel_rfl) rfl
    (fun f fn hf hfn => by
      obtain rfl : f = 3 := Option.some.inj ((show Tryd.prog.funcNamed "loop.example/g03103/laws.FnExactParseCode" = some 3 by kernel_rfl).symm.trans hf) |>.symm
      obtain rfl : fn = Tryd.f3 := (Option.some.inj (Tryd.func3.symm.trans hfn)).symm
      exact ⟨by kernel_rfl, fun j t ht => by
        rw [Tryd.params3] at ht
        have hm : t ∈ [9] := by simpa using Array.mem_of_getElem? ht
        have hall : ([9].all fun u => !Tryd.prog.wantsStandIn u) = true := by kernel_rfl
        exact (show Tryd.prog.wantsStandIn t = false by simpa using List.all_eq_true.1 hall t hm)⟩)
    (by kernel_rfl)
end Go.Proofs.YtgaeeibcfoppbaaDoor
