/- A code that is onto gives every word the same number of sources: the counting. No program in sight. -/
import Derived.Test.YtgbbidlbdjbilaaGrowMath
import Derived.Test.YtgbbidlbdjbilaaBalMath
import Derived.Test.YtgbbidlbdjbilaaPkB
namespace Go.Cm

theorem applyL_drop {K n : Nat} (hn : 1 ≤ n) (o : ByteArray) (u : List UInt8) (i : Nat) : (applyL K n o u).drop i = applyL K n o (u.drop i) := by
  apply List.ext_getElem
  · simp only [List.length_drop, applyL_length]
    omega
  · intro j h1 h2
    simp [applyL, partL, List.drop_drop]
theorem applyL_take {K n : Nat} (hn : 1 ≤ n) (o : ByteArray) (u : List UInt8) (a : Nat) (h : a + (n - 1) ≤ u.length) : (applyL K n o u).take a = applyL K n o (u.take (a + (n - 1))) := by
  apply List.ext_getElem
  · simp only [List.length_take, applyL_length]
    omega
  · intro j h1 h2
    have hj : j < a := by simp at h1; omega
    simp only [applyL, List.getElem_take, List.getElem_map, List.getElem_range]
    congr 1
    unfold partL
    rw [List.drop_take, List.take_take]
    congr 1
    omega
theorem mem_of_let {K : Nat} (hK0 : 0 < K) (hK : K ≤ 3) (u : List UInt8) : areLet K u = true → u ∈ wordsL K u.length := by
  refine snoc_induction (p := fun u => areLet K u = true → u ∈ wordsL K u.length) ?_ ?_ u
  · intro _
    simp [wordsL_zero]
  · intro u c ih h
    rw [areLet_append] at h
    simp only [Bool.and_eq_true] at h
    obtain ⟨y, hy, rfl⟩ := isLet_letN hK (show isLet K c = true by simpa [areLet] using h.2)
    rw [List.length_append]
    show u ++ [letN y] ∈ wordsL K (u.length + 1)
    rw [wordsL_succ K _ hK0]
    exact List.mem_flatMap.2 ⟨u, ih h.1, List.mem_map.2 ⟨y, List.mem_range.2 hy, rfl⟩⟩
theorem wordsL_nodup {K : Nat} (hK0 : 0 < K) (hK : K ≤ 3) : ∀ n, (wordsL K n).Nodup
  | 0 => by simp [wordsL_zero]
  | n + 1 => by
    rw [wordsL_succ K n hK0]
    have ih := wordsL_nodup hK0 hK n
    rw [List.Nodup, List.pairwise_flatMap]
    refine ⟨fun u _ => ?_, ih.imp fun {u v} hne x hx y hy e => ?_⟩
    · rw [List.pairwise_map]
      refine List.Pairwise.imp_of_mem (fun {x y} hx hy hne e => ?_) List.nodup_range
      have e' := (List.append_inj e rfl).2
      exact hne (letN_inj (by have := List.mem_range.1 hx; omega) (by have := List.mem_range.1 hy; omega) (List.cons.inj e').1)
    · obtain ⟨a, _, rfl⟩ := List.mem_map.1 hx
      obtain ⟨b, _, rfl⟩ := List.mem_map.1 hy
      exact hne (List.append_inj_left' e rfl)

theorem countP_one {α : Type} (p : α → Bool) : ∀ (U : List α), U.Nodup → (∀ u ∈ U, ∀ v ∈ U, p u = true → p v = true → u = v) → U.countP p = if U.any p = true then 1 else 0
  | [], _, _ => by simp
  | u :: U, hn, h => by
    have hn' := List.nodup_cons.1 hn
    have ih := countP_one p U hn'.2 (fun a ha b hb => h a (by simp [ha]) b (by simp [hb]))
    cases hp : p u with
    | true =>
      have h0 : U.countP p = 0 := by
        rw [List.countP_eq_zero]
        intro v hv hpv
        have := h u (by simp) v (by simp [hv]) hp hpv
        exact hn'.1 (this ▸ hv)
      simp [hp, h0]
    | false => simpa [hp] using ih
theorem sum_countP {α β : Type} (U : List α) (hU : U.Nodup) (P : β → α → Bool) (Q : β → Bool) : ∀ (S : List β), (∀ s ∈ S, (∀ u ∈ U, ∀ v ∈ U, P s u = true → P s v = true → u = v) ∧ U.any (P s) = Q s) → (U.map fun u => S.countP fun s => P s u).sum = S.countP Q
  | [], _ => by
    rw [sum_const U _ 0 (fun _ _ => by simp)]
    simp
  | s :: S, h => by
    have ih := sum_countP U hU P Q S (fun s hs => h s (by simp [hs]))
    obtain ⟨h1, h2⟩ := h s (by simp)
    have h3 := countP_one (P s) U hU h1
    rw [List.countP_cons, ← ih, ← h2, ← h3]
    clear ih h h1 h2 h3 hU
    induction U with
    | nil => simp
    | cons u U ih =>
      simp only [List.map_cons, List.sum_cons, List.countP_cons] at ih ⊢
      omega

/-- the number of a word's sources -/
def srcN (K n : Nat) (o : ByteArray) (w : List UInt8) : Nat := (wordsL K (w.length + (n - 1))).countP fun s => applyL K n o s == w

/-- all words between two given ones -/
theorem srcN_mid {K n : Nat} (hn : 1 ≤ n) (hK0 : 0 < K) (hK : K ≤ 3) (o : ByteArray) (hos : o.size = K ^ n) (hoa : areLet K o.data.toList = true) (x w : List UInt8) :
    ((wordsL K (n - 1)).map fun u => srcN K n o (x ++ u ++ w)).sum = srcN K n o x * srcN K n o w := by
  unfold srcN
  rw [← countP_two K (x.length + (n - 1)) (w.length + (n - 1)) hK0 (fun s => applyL K n o s == x) (fun s => applyL K n o s == w)]
  have hlen : ∀ u ∈ wordsL K (n - 1), (x ++ u ++ w).length + (n - 1) = x.length + (n - 1) + (w.length + (n - 1)) := by
    intro u hu
    have := (mem_wordsL hu hK0 hK).1
    simp only [List.length_append]
    omega
  have e1 : ((wordsL K (n - 1)).map fun u => (wordsL K ((x ++ u ++ w).length + (n - 1))).countP fun s => applyL K n o s == x ++ u ++ w) = (wordsL K (n - 1)).map fun u => (wordsL K (x.length + (n - 1) + (w.length + (n - 1)))).countP fun s => applyL K n o s == x ++ u ++ w :=
    List.map_congr_left fun u hu => by rw [hlen u hu]
  rw [e1]
  refine sum_countP _ (wordsL_nodup hK0 hK _) (fun s u => applyL K n o s == x ++ u ++ w) _ _ fun s hs => ⟨fun u hu v hv h1 h2 => ?_, ?_⟩
  · have e := (beq_iff_eq.1 h1).symm.trans (beq_iff_eq.1 h2)
    have e2 := List.append_inj_left' e rfl
    exact List.append_cancel_left e2
  · obtain ⟨hl, hs⟩ := mem_wordsL hs hK0 hK
    have hal := areLet_apply hos hoa hs
    have hL : (applyL K n o s).length = x.length + (n - 1) + w.length := by rw [applyL_length]; omega
    have ht := applyL_take (K := K) hn o s x.length (by omega)
    have hd := applyL_drop (K := K) hn o s (x.length + (n - 1))
    rw [← ht, ← hd]
    generalize applyL K n o s = A at hL hal
    rw [Bool.eq_iff_iff, List.any_eq_true]
    simp only [beq_iff_eq, Bool.and_eq_true]
    constructor
    · rintro ⟨u, hu, rfl⟩
      have hul := (mem_wordsL hu hK0 hK).1
      simp [← hul]
    · rintro ⟨h1, h2⟩
      have hm : areLet K ((A.drop x.length).take (n - 1)) = true := by
        unfold areLet at *
        rw [List.all_eq_true] at *
        intro c hc
        exact hal c (List.mem_of_mem_drop (List.mem_of_mem_take hc))
      have hml : ((A.drop x.length).take (n - 1)).length = n - 1 := by simp; omega
      have hmem := mem_of_let hK0 hK _ hm
      rw [hml] at hmem
      refine ⟨_, hmem, ?_⟩
      rw [← h2, ← List.drop_drop]
      rw [List.append_assoc, List.take_append_drop]
      conv => lhs; rw [← List.take_append_drop x.length A, h1]

theorem sum_ge {α : Type} (l : List α) (f : α → Nat) (c q : Nat) (h : ∀ u ∈ l, c ≤ f u * q) : l.length * c ≤ (l.map f).sum * q := by
  induction l with
  | nil => simp
  | cons u l ih =>
    have h1 := ih (fun v hv => h v (by simp [hv]))
    have h2 := h u (by simp)
    simp only [List.length_cons, List.map_cons, List.sum_cons, Nat.add_mul, Nat.one_mul]
    omega
theorem each_eq {α : Type} (q : Nat) (f : α → Nat) : ∀ (l : List α), (∀ u ∈ l, q ≤ f u) → (l.map f).sum = l.length * q → ∀ u ∈ l, f u = q
  | [], _, _, u, hu => by simp at hu
  | v :: l, h, hs, u, hu => by
    have h1 := h v (by simp)
    have h2 : l.length * q ≤ (l.map f).sum := by
      have := sum_ge l f q 1 (fun u hu => by have := h u (by simp [hu]); omega)
      omega
    simp only [List.length_cons, List.map_cons, List.sum_cons, Nat.add_mul, Nat.one_mul] at hs
    rcases List.mem_cons.1 hu with rfl | hu
    · omega
    · exact each_eq q f l (fun u hu => h u (by simp [hu])) (by omega) u hu

/-- What is onto gives many sources. -/
theorem onto_pow {K n : Nat} (hn : 1 ≤ n) (hK0 : 0 < K) (hK : K ≤ 3) (o : ByteArray) (hos : o.size = K ^ n) (hoa : areLet K o.data.toList = true) (hall : ∀ w, areLet K w = true → 1 ≤ srcN K n o w) (w : List UInt8) (hw : areLet K w = true) :
    ∀ k x, areLet K x = true → (K ^ (n - 1)) ^ k ≤ srcN K n o x * srcN K n o w ^ k
  | 0, x, hx => by simpa using hall x hx
  | k + 1, x, hx => by
    have h := sum_ge (wordsL K (n - 1)) (fun u => srcN K n o (x ++ u ++ w)) ((K ^ (n - 1)) ^ k) (srcN K n o w ^ k) (fun u hu => by
      refine onto_pow hn hK0 hK o hos hoa hall w hw k (x ++ u ++ w) ?_
      rw [areLet_append, areLet_append, hx, hw, (mem_wordsL hu hK0 hK).2]
      rfl)
    rw [srcN_mid hn hK0 hK o hos hoa, wordsL_length] at h
    rw [Nat.pow_succ, Nat.pow_succ]
    calc (K ^ (n - 1)) ^ k * K ^ (n - 1) = K ^ (n - 1) * (K ^ (n - 1)) ^ k := Nat.mul_comm _ _
      _ ≤ srcN K n o x * srcN K n o w * srcN K n o w ^ k := h
      _ = srcN K n o x * (srcN K n o w ^ k * srcN K n o w) := by rw [Nat.mul_assoc, Nat.mul_comm (srcN K n o w)]
theorem onto_ge {K n : Nat} (hn : 1 ≤ n) (hK0 : 0 < K) (hK : K ≤ 3) (o : ByteArray) (hos : o.size = K ^ n) (hoa : areLet K o.data.toList = true) (hall : ∀ w, areLet K w = true → 1 ≤ srcN K n o w) (w : List UInt8) (hw : areLet K w = true) :
    K ^ (n - 1) ≤ srcN K n o w := by
  apply Classical.byContradiction
  intro hlt
  obtain ⟨b, hb⟩ : ∃ b, K ^ (n - 1) = b + 1 := ⟨K ^ (n - 1) - 1, by have := Nat.pow_pos (n := n - 1) hK0; omega⟩
  obtain ⟨k, hk⟩ := growth b b
  have h := onto_pow hn hK0 hK o hos hoa hall w hw k w hw
  rw [hb] at h hlt
  have ht : srcN K n o w ≤ b := by omega
  have h2 : srcN K n o w * srcN K n o w ^ k ≤ b * b ^ k := Nat.mul_le_mul ht (Nat.pow_le_pow_left ht k)
  omega
/-- all words of a length have all sources together -/
theorem srcN_total {K n : Nat} (hn : 1 ≤ n) (hK0 : 0 < K) (hK : K ≤ 3) (o : ByteArray) (hos : o.size = K ^ n) (hoa : areLet K o.data.toList = true) (m : Nat) : ((wordsL K m).map (srcN K n o)).sum = K ^ m * K ^ (n - 1) := by
  have e1 : (wordsL K m).map (srcN K n o) = (wordsL K m).map fun u => (wordsL K (m + (n - 1))).countP fun s => applyL K n o s == u :=
    List.map_congr_left fun u hu => by unfold srcN; rw [(mem_wordsL hu hK0 hK).1]
  rw [e1, sum_countP _ (wordsL_nodup hK0 hK m) (fun s u => applyL K n o s == u) (fun _ => true) (wordsL K (m + (n - 1)))]
  · rw [List.countP_true, wordsL_length, Nat.pow_add]
  · intro s hs
    obtain ⟨hl, hs⟩ := mem_wordsL hs hK0 hK
    refine ⟨fun u _ v _ h1 h2 => (beq_iff_eq.1 h1).symm.trans (beq_iff_eq.1 h2), ?_⟩
    rw [List.any_eq_true]
    have hm := mem_of_let hK0 hK _ (areLet_apply hos hoa hs)
    rw [applyL_length, show s.length + 1 - n = m by omega] at hm
    exact ⟨_, hm, by simp⟩
/-- A code that is onto gives every word the same number of sources. -/
theorem onto_eq {K n : Nat} (hn : 1 ≤ n) (hK0 : 0 < K) (hK : K ≤ 3) (o : ByteArray) (hos : o.size = K ^ n) (hoa : areLet K o.data.toList = true) (hall : ∀ w, areLet K w = true → 1 ≤ srcN K n o w) (w : List UInt8) (hw : areLet K w = true) :
    srcN K n o w = K ^ (n - 1) := by
  refine each_eq (K ^ (n - 1)) (srcN K n o) (wordsL K w.length) (fun u hu => onto_ge hn hK0 hK o hos hoa hall u (mem_wordsL hu hK0 hK).2) ?_ w (mem_of_let hK0 hK w hw)
  rw [srcN_total hn hK0 hK o hos hoa, wordsL_length]
end Go.Cm
