/- What a slice reads as; how an argument that came in is opened. No dump is imported. -/
import Derived.Test.YtgaeeibcfoppbaaDoorTools
import Derived.ProofKit
import Derived.OpenShut
import Derived.ShutString
import Derived.ChangeOld
import Derived.Lib.SmallJoins
import Derived.Deep.Matrix
import Derived.Deep.Fields
namespace Go
open Go.RowKit Go.Joins Go.Deep Go.ChangeShapes Go.WideShapes Go.ChangeAt

/-- The slice v shows these cells. -/
def Reads (w : World) (v : Value) (fs : List Value) : Prop :=
  ∃ (a : Option Addr) (cap : Nat), v = .slice a fs.length cap ∧ fs.length ≤ cap ∧ cap ≤ maxLen ∧ ∀ i (h : i < fs.length), ∃ b o, a = some ⟨b, o, none⟩ ∧ w.cell? ⟨b, o + i, none⟩ = some fs[i]

theorem Reads.ext {w w' : World} {v : Value} {fs : List Value} (h : Reads w v fs) (hx : Ext w w') : Reads w' v fs := by
  obtain ⟨a, cap, hv, h1, h2, h3⟩ := h
  refine ⟨a, cap, hv, h1, h2, fun i hi => ?_⟩
  obtain ⟨b, o, ha, hc⟩ := h3 i hi
  exact ⟨b, o, ha, hx.cell_some hc⟩

/-- .. of numbers -/
def ReadsI (w : World) (v : Value) (xs : List Int) : Prop := Reads w v (xs.map (.int .i64))
theorem ReadsI.ext {w w' : World} {v : Value} {xs : List Int} (h : ReadsI w v xs) (hx : Ext w w') : ReadsI w' v xs := Reads.ext h hx

/-- The numbers fit the kind. -/
def InI64 (xs : List Int) : Prop := ∀ x ∈ xs, -9223372036854775808 ≤ x ∧ x ≤ 9223372036854775807

/-- .. of rows of numbers -/
def ReadsRows (w : World) (v : Value) (m : List (List Int)) : Prop :=
  ∃ vs : List Value, vs.length = m.length ∧ Reads w v vs ∧ ∀ i (h : i < m.length), ∃ u, vs[i]? = some u ∧ ReadsI w u m[i]
theorem ReadsRows.ext {w w' : World} {v : Value} {m : List (List Int)} (h : ReadsRows w v m) (hx : Ext w w') : ReadsRows w' v m := by
  obtain ⟨vs, h1, h2, h3⟩ := h
  refine ⟨vs, h1, h2.ext hx, fun i hi => ?_⟩
  obtain ⟨u, h4, h5⟩ := h3 i hi
  exact ⟨u, h4, h5.ext hx⟩

/-- .. of texts -/
def ReadsS (w : World) (v : Value) (ss : List ByteArray) : Prop := Reads w v (ss.map .string)
theorem ReadsS.ext {w w' : World} {v : Value} {ss : List ByteArray} (h : ReadsS w v ss) (hx : Ext w w') : ReadsS w' v ss := Reads.ext h hx

theorem i64_bounds {n : Int} (h : (Lit.int .i64 n).wf = true) : -9223372036854775808 ≤ n ∧ n ≤ 9223372036854775807 := by
  have := bounds_i64 h
  omega

theorem strip_cut (rest : List (List Char)) : stripLifts liftWords ("cut".toList :: rest) = ([], "cut".toList :: rest) := by rfl
theorem mayEnter_of {P : Program} (h : (behindMainWord (wordsSigns P.initOrder.toList)).head? = some "cut".toList) (h1 : P.laysLater = false) (h2 : P.bearsReflect = false) (h3 : P.doorFits [] = true) : P.mayEnter = true := by
  unfold Program.mayEnter
  cases hw : behindMainWord (wordsSigns P.initOrder.toList) with
  | nil => rw [hw] at h; cases h
  | cons c rest =>
    rw [hw] at h
    have hc : c = "cut".toList := Option.some.inj h
    subst hc
    simp only [strip_cut, h1, h2, h3]
    simp
theorem liftsFinal_of {P : Program} (h : (behindMainWord (wordsSigns P.initOrder.toList)).head? = some "cut".toList) : P.liftsFinal = false := by
  unfold Program.liftsFinal Program.headLifts
  cases hw : behindMainWord (wordsSigns P.initOrder.toList) with
  | nil => rw [hw] at h; cases h
  | cons c rest =>
    rw [hw] at h
    have hc : c = "cut".toList := Option.some.inj h
    subst hc
    simp only [strip_cut]
    simp
theorem make_of {P : Program} (h : (behindMainWord (wordsSigns P.initOrder.toList)).head? = some "cut".toList) : P.make = some .cut := by
  unfold Program.make
  cases hw : behindMainWord (wordsSigns P.initOrder.toList) with
  | nil => rw [hw] at h; cases h
  | cons c rest =>
    rw [hw] at h
    have hc : c = "cut".toList := Option.some.inj h
    subst hc
    simp

section
variable {H : Type} {enc : TypeId × Value → H} {P : Program} {w : World} {base : Nat} {held : Bool}

theorem cells_at {a : Addr} {n : Nat} {f : Nat → Value} (h : ∀ i, i < n → w.cell? (a.add i) = some (f i)) : ∀ i, i < n → ∃ b o, some a = some ⟨b, o, none⟩ ∧ w.cell? ⟨b, o + i, none⟩ = some (f i) := by
  intro i hi
  obtain ⟨b, o, spot⟩ := a
  have hs : spot = none := by simpa [Addr.add] using World.cell?_spot (h 0 (by omega))
  subst hs
  exact ⟨b, o, rfl, by have := h i hi; rwa [Go.WideShapes.add_plain] at this⟩

theorem code_of_trod {r : Reach} {b0 : Nat} {t : TypeId} {f0 f1 f2 : Field} {v : Value} {d : DataW H} {p : List MemPlace} (hs : P.underlying t = some (.struct #[f0, f1, f2])) (hi0 : P.underlying f0.type = some (.int .i64)) (hi1 : P.underlying f1.type = some (.int .i64)) (hs2 : P.underlying f2.type = some .string)
    (hone : oneCellFields P #[f0, f1, f2] = true) (hC : P.cellsOf t = 3)
    (hv : Value.okWide P w r b0 t v) (h : DataW.Trod enc P w base (fun _ => true) held t v d p) :
    ∃ (L W : Int) (x : ByteArray), v = .agg #[.int .i64 L, .int .i64 W, .string x] ∧ (-9223372036854775808 ≤ L ∧ L ≤ 9223372036854775807) ∧ (-9223372036854775808 ≤ W ∧ W ≤ 9223372036854775807) ∧ x.size ≤ maxLen := by
  obtain ⟨c0, c1, c2, y0, y1, y2, m, rfl, _, _, h0, h1, h2⟩ := open_agg3 hs hone hC hv h
  obtain ⟨a, e0, _, wa⟩ := DataW.trod_int hi0 h0
  obtain ⟨b, e1, _, wb⟩ := DataW.trod_int hi1 h1
  obtain ⟨x, e2, _, wx⟩ := DataW.trod_string hs2 h2
  simp at e0 e1 e2
  subst e0 e1 e2
  exact ⟨a, b, x, rfl, i64_bounds wa, i64_bounds wb, wx⟩

/-- a list of numbers that came in -/
theorem ints_of_trod {r : Reach} {b0 : Nat} {t e : TypeId} {v : Value} {d : DataW H} {p : List MemPlace} (ht : P.underlying t = some (.slice e)) (he : P.underlying e = some (.int .i64)) (hc : P.cellsOf e = 1)
    (hv : Value.okWide P w r b0 t v) (h : DataW.Trod enc P w base (fun _ => true) held t v d p) : ∃ xs : List Int, ReadsI w v xs ∧ InI64 xs := by
  obtain ⟨fuel, hf⟩ := h
  obtain ⟨a0, l0, c0, rfl⟩ := okWide_slice ht hv
  rcases open_ints ht he hc hf with ⟨hcs, _⟩ | ⟨a, len, cap, zs, hcs, _, hl, hm, hz, _, hcell, hw⟩
  · have hcs : Value.slice a0 l0 c0 = .slice none 0 0 := by simpa [Value.cells] using hcs
    rw [hcs]
    exact ⟨[], ⟨none, 0, rfl, Nat.le_refl _, Nat.zero_le _, fun i hi => by simp at hi⟩, fun x hx => by simp at hx⟩
  · have hcs : Value.slice a0 l0 c0 = .slice (some a) len cap := by simpa [Value.cells] using hcs
    rw [hcs]
    simp only [if_true] at hz
    have hlen : (zs.take len).length = len := by simp; omega
    refine ⟨zs.take len, ⟨some a, cap, by rw [List.length_map, hlen], by rw [List.length_map, hlen]; exact hl, hm, fun i hi => ?_⟩, fun x hx => i64_bounds (hw x (List.mem_of_mem_take hx))⟩
    have hi' : i < len := by rw [List.length_map, hlen] at hi; exact hi
    obtain ⟨b, o, h1, h2⟩ := cells_at hcell i (by omega)
    refine ⟨b, o, h1, ?_⟩
    rw [h2]
    simp [List.getD_eq_getElem?_getD, List.getElem?_eq_getElem (show i < zs.length by omega)]

/-- a list of texts that came in -/
theorem strings_of_trod {r : Reach} {b0 : Nat} {t e : TypeId} {v : Value} {d : DataW H} {p : List MemPlace} (ht : P.underlying t = some (.slice e)) (he : P.underlying e = some .string) (hc : P.cellsOf e = 1)
    (hv : Value.okWide P w r b0 t v) (h : DataW.Trod enc P w base (fun _ => true) held t v d p) : ∃ xs : List ByteArray, ReadsS w v xs ∧ ∀ s ∈ xs, s.size ≤ maxLen := by
  obtain ⟨fuel, hf⟩ := h
  obtain ⟨a0, l0, c0, rfl⟩ := okWide_slice ht hv
  rcases open_strings ht he hc hf with ⟨hcs, _⟩ | ⟨a, len, cap, zs, hcs, _, hl, hm, hz, _, hcell, hw⟩
  · have hcs : Value.slice a0 l0 c0 = .slice none 0 0 := by simpa [Value.cells] using hcs
    rw [hcs]
    exact ⟨[], ⟨none, 0, rfl, Nat.le_refl _, Nat.zero_le _, fun i hi => by simp at hi⟩, fun x hx => by simp at hx⟩
  · have hcs : Value.slice a0 l0 c0 = .slice (some a) len cap := by simpa [Value.cells] using hcs
    rw [hcs]
    simp only [if_true] at hz
    have hlen : (zs.take len).length = len := by simp; omega
    refine ⟨zs.take len, ⟨some a, cap, by rw [List.length_map, hlen], by rw [List.length_map, hlen]; exact hl, hm, fun i hi => ?_⟩, fun x hx => hw x (List.mem_of_mem_take hx)⟩
    have hi' : i < len := by rw [List.length_map, hlen] at hi; exact hi
    obtain ⟨b, o, h1, h2⟩ := cells_at hcell i (by omega)
    refine ⟨b, o, h1, ?_⟩
    rw [h2]
    simp [List.getD_eq_getElem?_getD, List.getElem?_eq_getElem (show i < zs.length by omega)]

/-- rows of numbers that came in -/
theorem rows_of_trod {r : Reach} {b0 : Nat} {t e q : TypeId} {v : Value} {d : DataW H} {p : List MemPlace} (ht : P.underlying t = some (.slice e)) (he : P.underlying e = some (.slice q)) (hq : P.underlying q = some (.int .i64)) (ce : P.cellsOf e = 1) (cq : P.cellsOf q = 1)
    (hv : Value.okWide P w r b0 t v) (h : DataW.Trod enc P w base (fun _ => true) held t v d p) : ∃ m : List (List Int), ReadsRows w v m ∧ ∀ xs ∈ m, InI64 xs := by
  obtain ⟨fuel, hf⟩ := h
  obtain ⟨a0, l0, c0, rfl⟩ := okWide_slice ht hv
  rcases open_int_rows ht he hq ce cq hf with ⟨hcs, _⟩ | ⟨a, len, cap, A, L, C, Z, hcs, _, hl, hm, _, hrow⟩
  · have hcs : Value.slice a0 l0 c0 = .slice none 0 0 := by simpa [Value.cells] using hcs
    rw [hcs]
    exact ⟨[], ⟨[], rfl, ⟨none, 0, rfl, Nat.le_refl _, Nat.zero_le _, fun i hi => by simp at hi⟩, fun i hi => by simp at hi⟩, fun x hx => by simp at hx⟩
  · have hcs : Value.slice a0 l0 c0 = .slice (some a) len cap := by simpa [Value.cells] using hcs
    rw [hcs]
    have hsl : ∀ i, i < cap → w.cell? (a.add i) = some (.slice (A i) (L i) (C i)) := fun i hi => (hrow i hi).1
    refine ⟨(List.range len).map fun i => (Z i).take (L i), ⟨(List.range len).map fun i => .slice (A i) (L i) (C i), by simp, ⟨some a, cap, by simp, by simpa using hl, hm, fun i hi => ?_⟩, fun i hi => ?_⟩, fun xs hxs => ?_⟩
    · have hi' : i < len := by simpa using hi
      obtain ⟨b, o, h1, h2⟩ := cells_at hsl i (by omega)
      exact ⟨b, o, h1, by rw [h2]; simp⟩
    · have hi' : i < len := by simpa using hi
      obtain ⟨_, r1, r2, r3, r4, r5, r6⟩ := hrow i (by omega)
      refine ⟨.slice (A i) (L i) (C i), by simp [hi'], ?_⟩
      have hlen : ((Z i).take (L i)).length = L i := by simp; omega
      have e1 : ((List.range len).map fun i => (Z i).take (L i))[i]'hi = (Z i).take (L i) := by simp
      rw [e1]
      refine ⟨A i, C i, by rw [List.length_map, hlen], by rw [List.length_map, hlen]; exact r1, r2, fun j hj => ?_⟩
      have hj' : j < L i := by rw [List.length_map, hlen] at hj; exact hj
      cases hA : A i with
      | none => have := r5 hA; omega
      | some a' =>
        obtain ⟨_, hc⟩ := r6 a' hA
        obtain ⟨b, o, h1, h2⟩ := cells_at hc j (by omega)
        refine ⟨b, o, h1, ?_⟩
        rw [h2]
        simp [List.getD_eq_getElem?_getD, List.getElem?_eq_getElem (show j < (Z i).length by omega)]
    · obtain ⟨i, hi, rfl⟩ := List.mem_map.1 hxs
      have hi' := List.mem_range.1 hi
      obtain ⟨_, r1, r2, r3, r4, _⟩ := hrow i (by omega)
      exact fun x hx => i64_bounds (r4 x (List.mem_of_mem_take hx))

theorem strings_of_cell {n : Nat} {t e : TypeId} {v : Value} {y : DataW H × List MemPlace} (ht : P.underlying t = some (.slice e)) (he : P.underlying e = some .string) (hc : P.cellsOf e = 1)
    (hf : DataW.trod enc P w base (fun _ => true) held n t [v] = some y) : ∃ xs : List ByteArray, ReadsS w v xs ∧ ∀ s ∈ xs, s.size ≤ maxLen := by
  rcases open_strings ht he hc hf with ⟨hcs, _⟩ | ⟨a, len, cap, zs, hcs, _, hl, hm, hz, _, hcell, hw⟩
  · have hcs : v = .slice none 0 0 := by simpa using hcs
    rw [hcs]
    exact ⟨[], ⟨none, 0, rfl, Nat.le_refl _, Nat.zero_le _, fun i hi => by simp at hi⟩, fun x hx => by simp at hx⟩
  · have hcs : v = .slice (some a) len cap := by simpa using hcs
    rw [hcs]
    simp only [if_true] at hz
    have hlen : (zs.take len).length = len := by simp; omega
    refine ⟨zs.take len, ⟨some a, cap, by rw [List.length_map, hlen], by rw [List.length_map, hlen]; exact hl, hm, fun i hi => ?_⟩, fun x hx => hw x (List.mem_of_mem_take hx)⟩
    have hi' : i < len := by rw [List.length_map, hlen] at hi; exact hi
    obtain ⟨b, o, h1, h2⟩ := cells_at hcell i (by omega)
    refine ⟨b, o, h1, ?_⟩
    rw [h2]
    simp [List.getD_eq_getElem?_getD, List.getElem?_eq_getElem (show i < zs.length by omega)]

/-- a shift that came in -/
theorem shift_of_trod {r : Reach} {b0 : Nat} {t e : TypeId} {f0 f1 : Field} {v : Value} {d : DataW H} {p : List MemPlace} (hs : P.underlying t = some (.struct #[f0, f1])) (hi0 : P.underlying f0.type = some (.int .i64)) (ht : P.underlying f1.type = some (.slice e)) (he : P.underlying e = some .string)
    (hone : oneCellFields P #[f0, f1] = true) (hC : P.cellsOf t = 2) (hc : P.cellsOf e = 1)
    (hv : Value.okWide P w r b0 t v) (h : DataW.Trod enc P w base (fun _ => true) held t v d p) :
    ∃ (L : Int) (u : Value) (xs : List ByteArray), v = .agg #[.int .i64 L, u] ∧ (-9223372036854775808 ≤ L ∧ L ≤ 9223372036854775807) ∧ ReadsS w u xs ∧ ∀ s ∈ xs, s.size ≤ maxLen := by
  obtain ⟨c0, u, y0, y1, m, rfl, _, _, h0, h1⟩ := open_agg2 hs hone hC hv h
  obtain ⟨a, e0, _, wa⟩ := DataW.trod_int hi0 h0
  simp at e0
  subst e0
  obtain ⟨xs, hx, hm⟩ := strings_of_cell ht he hc h1
  exact ⟨a, u, xs, rfl, i64_bounds wa, hx, hm⟩

/-- arcs: three numbers each -/
def ReadsArcs (w : World) (v : Value) (as : List (Int × Int × Int)) : Prop :=
  ∃ (a : Option Addr) (cap : Nat), v = .slice a as.length cap ∧ as.length ≤ cap ∧ cap ≤ maxLen ∧ ∀ i (h : i < as.length), ∃ b o, a = some ⟨b, o, none⟩ ∧ w.cell? ⟨b, o + i * 3, none⟩ = some (.int .i64 as[i].1) ∧ w.cell? ⟨b, o + i * 3 + 1, none⟩ = some (.int .i64 as[i].2.1) ∧ w.cell? ⟨b, o + i * 3 + 2, none⟩ = some (.int .i64 as[i].2.2)
theorem ReadsArcs.ext {w w' : World} {v : Value} {as : List (Int × Int × Int)} (h : ReadsArcs w v as) (hx : Ext w w') : ReadsArcs w' v as := by
  obtain ⟨a, cap, hv, h1, h2, h3⟩ := h
  refine ⟨a, cap, hv, h1, h2, fun i hi => ?_⟩
  obtain ⟨b, o, ha, k0, k1, k2⟩ := h3 i hi
  exact ⟨b, o, ha, hx.cell_some k0, hx.cell_some k1, hx.cell_some k2⟩
def ArcsFit (as : List (Int × Int × Int)) : Prop := ∀ x ∈ as, InI64 [x.1, x.2.1, x.2.2]

theorem arcs_of_cell {n : Nat} {t e : TypeId} {g0 g1 g2 : Field} {v : Value} {y : DataW H × List MemPlace} (ht : P.underlying t = some (.slice e)) (he : P.underlying e = some (.struct #[g0, g1, g2])) (hi0 : P.underlying g0.type = some (.int .i64)) (hi1 : P.underlying g1.type = some (.int .i64)) (hi2 : P.underlying g2.type = some (.int .i64))
    (ce : P.cellsOf e = 3) (o0 : g0.offset = 0) (o1 : g1.offset = 1) (o2 : g2.offset = 2) (c0 : P.cellsOf g0.type = 1) (c1 : P.cellsOf g1.type = 1) (c2 : P.cellsOf g2.type = 1)
    (hf : DataW.trod enc P w base (fun _ => true) held n t [v] = some y) : ∃ as : List (Int × Int × Int), ReadsArcs w v as ∧ ArcsFit as := by
  rcases open_slice ht hf with ⟨hcs, _⟩ | ⟨a, len, cap, m, k, D, Pl, hcs, _, hl, hm, hmm, _, hrow⟩
  · have hcs : v = .slice none 0 0 := by simpa using hcs
    rw [hcs]
    exact ⟨[], ⟨none, 0, rfl, Nat.le_refl _, Nat.zero_le _, fun i hi => by simp at hi⟩, fun x hx => by simp at hx⟩
  · have hcs : v = .slice (some a) len cap := by simpa using hcs
    rw [hcs]
    simp only [if_true] at hmm
    subst hmm
    have each : ∀ i, i < m → ∃ x : Int × Int × Int, InI64 [x.1, x.2.1, x.2.2] ∧ w.cell? (a.add (i * 3)) = some (.int .i64 x.1) ∧ w.cell? ((a.add (i * 3)).add 1) = some (.int .i64 x.2.1) ∧ w.cell? ((a.add (i * 3)).add 2) = some (.int .i64 x.2.2) := by
      intro i hi
      obtain ⟨cs', h1, h2⟩ := hrow i hi
      rw [ce] at h1
      obtain ⟨y0, y1, y2, k', _, hlen, h3, h4, h5⟩ := trod_struct3 he h2
      rw [ce] at hlen
      match cs', hlen with
      | [x0, x1, x2], _ =>
        rw [o0, c0] at h3
        rw [o1, c1] at h4
        rw [o2, c2] at h5
        obtain ⟨n0, e0, _, w0⟩ := DataW.trod_int hi0 h3
        obtain ⟨n1, e1, _, w1⟩ := DataW.trod_int hi1 h4
        obtain ⟨n2, e2, _, w2⟩ := DataW.trod_int hi2 h5
        simp at e0 e1 e2
        subst e0 e1 e2
        have hc := (World.cells?_some h1).2.2
        refine ⟨(n0, n1, n2), fun x hx => ?_, by simpa [Addr.add] using hc 0 (by omega), by simpa using hc 1 (by omega), by simpa using hc 2 (by omega)⟩
        simp at hx
        rcases hx with rfl | rfl | rfl
        · exact i64_bounds w0
        · exact i64_bounds w1
        · exact i64_bounds w2
    obtain ⟨X, hX⟩ := choose_lt each
    refine ⟨(List.range len).map X, ⟨some a, m, by simp, by simpa using hl, hm, fun i hi => ?_⟩, fun x hx => ?_⟩
    · have hi' : i < len := by simpa using hi
      obtain ⟨_, h1, h2, h3⟩ := hX i (by omega)
      obtain ⟨_, z1, _⟩ := hX 0 (by omega)
      obtain ⟨b, o, spot⟩ := a
      have hs : spot = none := by simpa [Addr.add] using World.cell?_spot z1
      subst hs
      refine ⟨b, o, rfl, ?_⟩
      simp only [Go.WideShapes.add_plain] at h1 h2 h3
      simpa using ⟨h1, h2, h3⟩
    · obtain ⟨i, hi, rfl⟩ := List.mem_map.1 hx
      exact (hX i (by have := List.mem_range.1 hi; omega)).1

/-- a labelled graph that came in -/
theorem labels_of_trod {r : Reach} {b0 : Nat} {t e : TypeId} {f0 f1 f2 g0 g1 g2 : Field} {v : Value} {d : DataW H} {p : List MemPlace} (hs : P.underlying t = some (.struct #[f0, f1, f2])) (hj0 : P.underlying f0.type = some (.int .i64)) (hj1 : P.underlying f1.type = some (.int .i64))
    (ht : P.underlying f2.type = some (.slice e)) (he : P.underlying e = some (.struct #[g0, g1, g2])) (hi0 : P.underlying g0.type = some (.int .i64)) (hi1 : P.underlying g1.type = some (.int .i64)) (hi2 : P.underlying g2.type = some (.int .i64))
    (hone : oneCellFields P #[f0, f1, f2] = true) (hC : P.cellsOf t = 3)
    (ce : P.cellsOf e = 3) (o0 : g0.offset = 0) (o1 : g1.offset = 1) (o2 : g2.offset = 2) (c0 : P.cellsOf g0.type = 1) (c1 : P.cellsOf g1.type = 1) (c2 : P.cellsOf g2.type = 1)
    (hv : Value.okWide P w r b0 t v) (h : DataW.Trod enc P w base (fun _ => true) held t v d p) :
    ∃ (L S : Int) (u : Value) (as : List (Int × Int × Int)), v = .agg #[.int .i64 L, .int .i64 S, u] ∧ (-9223372036854775808 ≤ L ∧ L ≤ 9223372036854775807) ∧ (-9223372036854775808 ≤ S ∧ S ≤ 9223372036854775807) ∧ ReadsArcs w u as ∧ ArcsFit as := by
  obtain ⟨k0, k1, u, y0, y1, y2, m, rfl, _, _, h0, h1, h2⟩ := open_agg3 hs hone hC hv h
  obtain ⟨a, e0, _, wa⟩ := DataW.trod_int hj0 h0
  obtain ⟨b, e1, _, wb⟩ := DataW.trod_int hj1 h1
  simp at e0 e1
  subst e0 e1
  obtain ⟨as, ha, hm⟩ := arcs_of_cell ht he hi0 hi1 hi2 ce o0 o1 o2 c0 c1 c2 h2
  exact ⟨a, b, u, as, rfl, i64_bounds wa, i64_bounds wb, ha, hm⟩

/-- bytes that came in -/
def ReadsB (w : World) (v : Value) (xs : List UInt8) : Prop := Reads w v (xs.map fun c => .int .u8 (c.toNat : Int))
theorem ReadsB.ext {w w' : World} {v : Value} {xs : List UInt8} (h : ReadsB w v xs) (hx : Ext w w') : ReadsB w' v xs := Reads.ext h hx
theorem bytes_of_trod {r : Reach} {b0 : Nat} {t e : TypeId} {v : Value} {d : DataW H} {p : List MemPlace} (ht : P.underlying t = some (.slice e)) (he : P.underlying e = some (.int .u8)) (hc : P.cellsOf e = 1)
    (hv : Value.okWide P w r b0 t v) (h : DataW.Trod enc P w base (fun _ => true) held t v d p) : ∃ xs : List UInt8, ReadsB w v xs := by
  obtain ⟨fuel, hf⟩ := h
  obtain ⟨a0, l0, c0, rfl⟩ := okWide_slice ht hv
  rcases open_ints ht he hc hf with ⟨hcs, _⟩ | ⟨a, len, cap, zs, hcs, _, hl, hm, hz, _, hcell, hw⟩
  · have hcs : Value.slice a0 l0 c0 = .slice none 0 0 := by simpa [Value.cells] using hcs
    rw [hcs]
    exact ⟨[], ⟨none, 0, rfl, Nat.le_refl _, Nat.zero_le _, fun i hi => by simp at hi⟩⟩
  · have hcs : Value.slice a0 l0 c0 = .slice (some a) len cap := by simpa [Value.cells] using hcs
    rw [hcs]
    simp only [if_true] at hz
    have hlen : ((zs.take len).map fun n => UInt8.ofNat n.toNat).length = len := by simp; omega
    refine ⟨(zs.take len).map fun n => UInt8.ofNat n.toNat, ⟨some a, cap, by rw [List.length_map, hlen], by rw [List.length_map, hlen]; exact hl, hm, fun i hi => ?_⟩⟩
    have hi' : i < len := by rw [List.length_map, hlen] at hi; exact hi
    obtain ⟨b, o, h1, h2⟩ := cells_at hcell i (by omega)
    refine ⟨b, o, h1, ?_⟩
    rw [h2]
    have hi2 : i < zs.length := by omega
    have hwf := hw zs[i] (List.getElem_mem hi2)
    simp only [Lit.wf, IntKind.min, IntKind.max, IntKind.signed, IntKind.bits, Bool.and_eq_true, decide_eq_true_eq, Bool.false_eq_true, if_false] at hwf
    have h3 : ((UInt8.ofNat zs[i].toNat).toNat : Int) = zs[i] := by
      have : (UInt8.ofNat zs[i].toNat).toNat = zs[i].toNat % 256 := rfl
      omega
    simp only [List.getD_eq_getElem?_getD, List.getElem?_eq_getElem hi2, Option.getD_some, List.getElem_map, List.getElem_take, h3]
end
end Go
