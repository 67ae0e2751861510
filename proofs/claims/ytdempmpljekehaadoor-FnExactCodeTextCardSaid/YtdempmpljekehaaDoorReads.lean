/- What a slice reads as; how an argument that came in is opened. No dump is imported. -/
import Derived.Test.YtdempmpljekehaaDoorTools
import Derived.ProofKit
import Derived.OpenShut
import Derived.ShutString
import Derived.ChangeOld
import Derived.Lib.SmallJoins
import Derived.Deep.Matrix
import Derived.Deep.Fields
namespace Go
open Go.RowKit Go.Joins Go.Deep Go.ChangeShapes Go.WideShapes Go.ChangeAt

/-- The slice v shows these cells. -/
def Reads (w : World) (v : Value) (fs : List Value) : Prop :=
  ∃ (a : Option Addr) (cap : Nat), v = .slice a fs.length cap ∧ fs.length ≤ cap ∧ cap ≤ maxLen ∧ ∀ i (h : i < fs.length), ∃ b o, a = some ⟨b, o, none⟩ ∧ w.cell? ⟨b, o + i, none⟩ = some fs[i]

theorem Reads.ext {w w' : World} {v : Value} {fs : List Value} (h : Reads w v fs) (hx : Ext w w') : Reads w' v fs := by
  obtain ⟨a, cap, hv, h1, h2, h3⟩ := h
  refine ⟨a, cap, hv, h1, h2, fun i hi => ?_⟩
  obtain ⟨b, o, ha, hc⟩ := h3 i hi
  exact ⟨b, o, ha, hx.cell_some hc⟩

/-- .. of numbers -/
def ReadsI (w : World) (v : Value) (xs : List Int) : Prop := Reads w v (xs.map (.int .i64))
theorem ReadsI.ext {w w' : World} {v : Value} {xs : List Int} (h : ReadsI w v xs) (hx : Ext w w') : ReadsI w' v xs := Reads.ext h hx

/-- The numbers fit the kind. -/
def InI64 (xs : List Int) : Prop := ∀ x ∈ xs, -9223372036854775808 ≤ x ∧ x ≤ 9223372036854775807

/-- .. of rows of numbers -/
def ReadsRows (w : World) (v : Value) (m : List (List Int)) : Prop :=
  ∃ vs : List Value, vs.length = m.length ∧ Reads w v vs ∧ ∀ i (h : i < m.length), ∃ u, vs[i]? = some u ∧ ReadsI w u m[i]
theorem ReadsRows.ext {w w' : World} {v : Value} {m : List (List Int)} (h : ReadsRows w v m) (hx : Ext w w') : ReadsRows w' v m := by
  obtain ⟨vs, h1, h2, h3⟩ := h
  refine ⟨vs, h1, h2.ext hx, fun i hi => ?_⟩
  obtain ⟨u, h4, h5⟩ := h3 i hi
  exact ⟨u, h4, h5.ext hx⟩

/-- .. of texts -/
def ReadsS (w : World) (v : Value) (ss : List ByteArray) : Prop := Reads w v (ss.map .string)
theorem ReadsS.ext {w w' : World} {v : Value} {ss : List ByteArray} (h : ReadsS w v ss) (hx : Ext w w') : ReadsS w' v ss := Reads.ext h hx

theorem i64_bounds {n : Int} (h : (Lit.int .i64 n).wf = true) : -9223372036854775808 ≤ n ∧ n ≤ 9223372036854775807 := by
  have := bounds_i64 h
  omega

theorem strip_cut (rest : List (List Char)) : stripLifts liftWords ("cut".toList :: rest) = ([], "cut".toList :: rest) := by rfl
theorem mayEnter_of {P : Program} (h : (behindMainWord (wordsSigns P.initOrder.toList)).head? = some "cut".toList) (h1 : P.laysLater = false) (h2 : P.bearsReflect = false) (h3 : P.doorFits [] = true) : P.mayEnter = true := by
  unfold Program.mayEnter
  cases hw : behindMainWord (wordsSigns P.initOrder.toList) with
  | nil => rw [hw] at h; cases h
  | cons c rest =>
    rw [hw] at h
    have hc : c = "cut".toList := Option.some.inj h
    subst hc
    simp only [strip_cut, h1, h2, h3]
    simp
theorem liftsFinal_of {P : Program} (h : (behindMainWord (wordsSigns P.initOrder.toList)).head? = some "cut".toList) : P.liftsFinal = false := by
  unfold Program.liftsFinal Program.headLifts
  cases hw : behindMainWord (wordsSigns P.initOrder.toList) with
  | nil => rw [hw] at h; cases h
  | cons c rest =>
    rw [hw] at h
    have hc : c = "cut".toList := Option.some.inj h
    subst hc
    simp only [strip_cut]
    simp
theorem make_of {P : Program} (h : (behindMainWord (wordsSigns P.initOrder.toList)).head? = some "cut".toList) : P.make = some .cut := by
  unfold Program.make
  cases hw : behindMainWord (wordsSigns P.initOrder.toList) with
  | nil => rw [hw] at h; cases h
  | cons c rest =>
    rw [hw] at h
    have hc : c = "cut".toList := Option.some.inj h
    subst hc
    simp

section
variable {H : Type} {enc : TypeId × Value → H} {P : Program} {w : World} {base : Nat} {held : Bool}

theorem cells_at {a : Addr} {n : Nat} {f : Nat → Value} (h : ∀ i, i < n → w.cell? (a.add i) = some (f i)) : ∀ i, i < n → ∃ b o, some a = some ⟨b, o, none⟩ ∧ w.cell? ⟨b, o + i, none⟩ = some (f i) := by
  intro i hi
  obtain ⟨b, o, spot⟩ := a
  have hs : spot = none := by simpa [Addr.add] using World.cell?_spot (h 0 (by omega))
  subst hs
  exact ⟨b, o, rfl, by have := h i hi; rwa [Go.WideShapes.add_plain] at this⟩

theorem code_of_trod {r : Reach} {b0 : Nat} {t : TypeId} {f0 f1 f2 : Field} {v : Value} {d : DataW H} {p : List MemPlace} (hs : P.underlying t = some (.struct #[f0, f1, f2])) (hi0 : P.underlying f0.type = some (.int .i64)) (hi1 : P.underlying f1.type = some (.int .i64)) (hs2 : P.underlying f2.type = some .string)
    (hone : oneCellFields P #[f0, f1, f2] = true) (hC : P.cellsOf t = 3)
    (hv : Value.okWide P w r b0 t v) (h : DataW.Trod enc P w base (fun _ => true) held t v d p) :
    ∃ (L W : Int) (x : ByteArray), v = .agg #[.int .i64 L, .int .i64 W, .string x] ∧ (-9223372036854775808 ≤ L ∧ L ≤ 9223372036854775807) ∧ (-9223372036854775808 ≤ W ∧ W ≤ 9223372036854775807) ∧ x.size ≤ maxLen := by
  obtain ⟨c0, c1, c2, y0, y1, y2, m, rfl, _, _, h0, h1, h2⟩ := open_agg3 hs hone hC hv h
  obtain ⟨a, e0, _, wa⟩ := DataW.trod_int hi0 h0
  obtain ⟨b, e1, _, wb⟩ := DataW.trod_int hi1 h1
  obtain ⟨x, e2, _, wx⟩ := DataW.trod_string hs2 h2
  simp at e0 e1 e2
  subst e0 e1 e2
  exact ⟨a, b, x, rfl, i64_bounds wa, i64_bounds wb, wx⟩
end
end Go
