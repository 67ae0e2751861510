/- Contracts: a numeral read, by the program; what the walk asks of the library's error variables. -/
import Derived.Test.YtgaeeibcfoppbaaGreatDoorPkP
import Derived.Test.YtgaeeibcfoppbaaGreatDoorLaidTab
import Derived.Stop.LaidErr
import Derived.Lib.SmallJoins
namespace Go.Proofs.YtgaeeibcfoppbaaGreatDoor
open Go.RowKit Go.Cm

/-- the library's two error variables hold errors -/
def ErrC (w : World) : Prop := (∃ tp p, w.var? Tryz.prog "strconv.ErrSyntax" = some #[.iface tp p]) ∧ ∃ tp p, w.var? Tryz.prog "strconv.ErrRange" = some #[.iface tp p]
theorem var_ext {w w' : World} {n : String} {g : Nat} {cs : Array Value} (hg : Tryz.prog.globalNamed n = some g) (h : w.var? Tryz.prog n = some cs) (hx : Ext w w') : w'.var? Tryz.prog n = some cs := by
  unfold World.var? at h ⊢
  rw [hg] at h ⊢
  simp only [Option.bind_some] at h ⊢
  have hlt : g < w.heap.size := by
    rcases Nat.lt_or_ge g w.heap.size with h' | h'
    · exact h'
    · rw [Array.getElem?_eq_none h'] at h; cases h
  rw [Below.block hx _ hlt]
  exact h
theorem ErrC.ext {w w' : World} (h : ErrC w) (hx : Ext w w') : ErrC w' := by
  obtain ⟨⟨t1, p1, h1⟩, t2, p2, h2⟩ := h
  exact ⟨⟨t1, p1, var_ext (g := 3) (by kernel_rfl) h1 hx⟩, t2, p2, var_ext (g := 4) (by kernel_rfl) h2 hx⟩
theorem laidMet_tail {P : Program} {x : String × DataW Unit} {r : List (String × DataW Unit)} {w : World} (h : laidMet P (x :: r) w) : laidMet P r w := by
  obtain ⟨n, d⟩ := x
  obtain ⟨ps, ⟨g, t, cs, fuel, p, q, h1, h2, h3, h4, h5, h6⟩, hnd, hall⟩ := h
  subst h6
  refine ⟨q, h5, (List.nodup_append.1 hnd).2.1, fun b off hb => hall b off (List.mem_append_right _ hb)⟩
theorem laidMet_drop {P : Program} {w : World} : ∀ (i : Nat) (l : List (String × DataW Unit)), laidMet P l w → laidMet P (l.drop i) w
  | 0, _, h => h
  | _ + 1, [], h => h
  | i + 1, _ :: r, h => laidMet_drop i r (laidMet_tail h)
theorem star_err : "*" ++ "errors.errorString" = "*errors.errorString" := by decide
theorem row_err (u : TypeId) (h : Tryz.prog.typeName? 3 u = some "*errors.errorString") : u = 137 :=
  typeName_ptr_named (nm := "errors.errorString") (by rw [star_err]; kernel_rfl) (by kernel_rfl) (by decide) u (by rw [star_err]; exact h)
theorem errC_of {W : World} {laid r1 r2 : List (String × DataW Unit)} {t1 t2 : List UInt8} (i j : Nat) (h : laidMetH Tryz.prog laid W) (hn : (laid.filter fun x => x.2.handleName?.isSome) = [])
    (hi : laid.drop i = ("strconv.ErrSyntax", .iface "*errors.errorString" (.ptr (.agg [.lit (.string t1)]))) :: r1) (hj : laid.drop j = ("strconv.ErrRange", .iface "*errors.errorString" (.ptr (.agg [.lit (.string t2)]))) :: r2) : ErrC W := by
  unfold laidMetH at h
  rw [hn] at h
  have h1 := laidMet_drop i laid h
  have h2 := laidMet_drop j laid h
  rw [hi] at h1
  rw [hj] at h2
  obtain ⟨a1, s1, v1, -, -, -⟩ := laid_sentinel h1 (g := 3) (by kernel_rfl) (by kernel_rfl) Tryz.underlying86 row_err Tryz.underlying137 Tryz.underlying139 rfl rfl Tryz.underlying9 (by kernel_rfl) (by kernel_rfl)
  obtain ⟨a2, s2, v2, -, -, -⟩ := laid_sentinel h2 (g := 4) (by kernel_rfl) (by kernel_rfl) Tryz.underlying86 row_err Tryz.underlying137 Tryz.underlying139 rfl rfl Tryz.underlying9 (by kernel_rfl) (by kernel_rfl)
  exact ⟨⟨_, _, v1⟩, _, _, v2⟩

set_option maxHeartbeats 1000000 in
theorem impl_parse_any (s : List UInt8) (w : World) (hs : s.length ≤ 1048576) (ht : TabC w) (he : ErrC w) :
    Calls Tryz.prog 64 #[.string (mkS s), .int .i64 0, .int .i64 999999] w fun e w' => NumOut s w e w' := by
  have hsz : (mkS s).size ≤ 1048576 := by rw [mkS_size]; exact hs
  rcases hat : Lib.atoiAll s with v | _ | _
  rotate_left
  · skip
    obtain ⟨tp, p, hv⟩ := he.1
    have hnd : ∀ d, d < 10 → s ≠ [digC d] := by
      rintro d hd rfl
      rw [atoiAll_dig hd] at hat
      cases hat
    have hc : Calls Tryz.prog 80 #[.string (mkS s)] w fun e w' => ∃ N, e = .returned (.tuple #[.int .i64 0, .iface 113 (.pointer (some ⟨N, 0, none⟩))]) ∧ Ext w w' := (Any.strconv_Atoi_syntax_var Tryz.laysC172 (mkS s) (by omega) (by rw [mkS_data]; exact hat) tp p w hv).mono fun e w' ⟨N, h1, _, _, h4⟩ => ⟨N, h1, h4⟩
    have HC := Lib.hid hc
    clear hc
    have HN := Lib.hid hnd
    clear hat hv he ht hnd
    go_enter Tryz.func64, Tryz.ntmps64
    go_wp2_with fail
    with_reducible refine HC.out.mono ?_
    rintro e w1 ⟨M, rfl, hx⟩
    go_wp2
    exact bodyPost_ret (v := .tuple #[.int .i64 0, .bool false]) (by simp [results, Tryz.results64]) rfl ⟨0, false, rfl, NumR.no HN.out, by omega, hx⟩
  · skip
    obtain ⟨tp, p, hv⟩ := he.2
    have hnd : ∀ d, d < 10 → s ≠ [digC d] := by
      rintro d hd rfl
      rw [atoiAll_dig hd] at hat
      cases hat
    have HC := Lib.hid (Tryz.strconv_Atoi_range_var (mkS s) (by omega) (by rw [mkS_data]; exact hat) tp p w hv)
    have HN := Lib.hid hnd
    clear hat hv he ht hnd
    go_enter Tryz.func64, Tryz.ntmps64
    go_wp2_with fail
    with_reducible refine HC.out.mono ?_
    rintro e w1 ⟨M, rfl, h1, h2, hx⟩
    clear h1 h2
    go_wp2
    exact bodyPost_ret (v := .tuple #[.int .i64 0, .bool false]) (by simp [results, Tryz.results64]) rfl ⟨0, false, rfl, NumR.no HN.out, by omega, hx⟩
  · skip
    have hbd := Lib.atoiAll_bounds hat
    have hdig : ∀ d : Nat, d < 10 → s = [digC d] → v = d := by
      rintro d hd rfl
      rw [atoiAll_dig hd] at hat
      injection hat with hat
      exact hat.symm
    have HC := Lib.hid (Tryz.strconv_Atoi_ok (mkS s) (by omega) v (by rw [mkS_data]; exact hat) w)
    have hf := fun w h => impl_FormatInt_any v w hbd.1 hbd.2 h
    have hbq := mkS_beq (Lib.itoa v) s
    obtain ⟨a, ha⟩ : ∃ a : List UInt8, a = Lib.itoa v := ⟨_, rfl⟩
    rw [← ha] at hf hbq
    have HF := Lib.hid (And.intro hf (And.intro ha (And.intro hdig ht)))
    have hxo : ∀ w', (w' = w ∨ ∃ t, w' = Lib.bytesWorld w 5 t) → Ext w w' := by
      rintro w' (rfl | ⟨t, rfl⟩)
      · exact Ext.refl _
      · exact Joins.below_bytesWorld _ _ _ _ (Nat.le_refl _)
    have HX := Lib.hid hxo
    clear hat hdig hf ha ht he hxo
    by_cases hneg : v < 0
    · have HN := Lib.hid (show ∀ d, d < 10 → s ≠ [digC d] from fun d hd e => by have := HF.out.2.2.1 d hd e; omega)
      go_enter Tryz.func64, Tryz.ntmps64
      go_wp2_with fail
      with_reducible refine HC.out.mono ?_
      rintro e w1 ⟨rfl, hor⟩
      have hx := HX.out _ hor
      clear hor hbq
      go_wp2
      exact bodyPost_ret (v := .tuple #[.int .i64 0, .bool false]) (by simp [results, Tryz.results64]) rfl ⟨0, false, rfl, NumR.no HN.out, by omega, hx⟩
    by_cases hbig : 999999 < v
    · have HN := Lib.hid (show ∀ d, d < 10 → s ≠ [digC d] from fun d hd e => by have := HF.out.2.2.1 d hd e; omega)
      go_enter Tryz.func64, Tryz.ntmps64
      go_wp2_with fail
      with_reducible refine HC.out.mono ?_
      rintro e w1 ⟨rfl, hor⟩
      have hx := HX.out _ hor
      clear hor hbq
      go_wp2
      exact bodyPost_ret (v := .tuple #[.int .i64 0, .bool false]) (by simp [results, Tryz.results64]) rfl ⟨0, false, rfl, NumR.no HN.out, by omega, hx⟩
    by_cases he : a = s
    · have hb1 : ((mkS a).toList == (mkS s).toList) = true := by rw [hbq]; simpa using he
      clear hbq
      go_enter Tryz.func64, Tryz.ntmps64
      go_wp2_with fail
      with_reducible refine HC.out.mono ?_
      rintro e w1 ⟨rfl, hor⟩
      have hx := HX.out _ hor
      clear hor
      go_wp2_with fail
      with_reducible refine (HF.out.1 _ (HF.out.2.2.2.ext hx)).mono ?_
      rintro e w2 ⟨rfl, hy⟩
      go_wp2
      exact bodyPost_ret (v := .tuple #[.int .i64 v, .bool true]) (by simp [results, Tryz.results64]) rfl ⟨v, true, rfl, NumR.yes (by rw [← he]; exact HF.out.2.1) HF.out.2.2.1, by omega, hx.trans hy⟩
    · have hb1 : ((mkS a).toList == (mkS s).toList) = false := by rw [hbq]; simpa using he
      have HN := Lib.hid (show ∀ d, d < 10 → s ≠ [digC d] from fun d hd e => he (by rw [HF.out.2.1, HF.out.2.2.1 d hd e, itoa_dig hd]; exact e.symm))
      clear hbq
      go_enter Tryz.func64, Tryz.ntmps64
      go_wp2_with fail
      with_reducible refine HC.out.mono ?_
      rintro e w1 ⟨rfl, hor⟩
      have hx := HX.out _ hor
      clear hor
      go_wp2_with fail
      with_reducible refine (HF.out.1 _ (HF.out.2.2.2.ext hx)).mono ?_
      rintro e w2 ⟨rfl, hy⟩
      go_wp2
      exact bodyPost_ret (v := .tuple #[.int .i64 0, .bool false]) (by simp [results, Tryz.results64]) rfl ⟨0, false, rfl, NumR.no HN.out, by omega, hx.trans hy⟩

theorem impl_ParseNumber_any (s : List UInt8) (w : World) (hs : s.length ≤ 1048576) (ht : TabC w) (he : ErrC w) :
    Calls Tryz.prog 42 #[.string (mkS s)] w fun e w' => NumOut s w e w' := by
  have HC := Lib.hid (impl_parse_any s w hs ht he)
  clear ht he
  go_enter Tryz.func42, Tryz.ntmps42
  go_wp2_with fail
  with_reducible refine HC.out.mono ?_
  rintro e w1 ⟨z, b, rfl, hn, hb, hx⟩
  have HN := Lib.hid (And.intro hn (And.intro hb hx))
  clear hn hb hx
  go_wp2
  exact bodyPost_ret (v := .tuple #[.int .i64 z, .bool b]) (by simp [results, Tryz.results42]) rfl ⟨z, b, rfl, HN.out.1, HN.out.2.1, HN.out.2.2⟩
end Go.Proofs.YtgaeeibcfoppbaaGreatDoor
