/- A copy into a row of the call's own. No dump is imported. -/
import Derived.Test.YtngbibaphakifaaDoorOwn3
import Derived.Laws.CopyOwn
namespace Go
open Go.RowKit

theorem splice_take {α : Type} (L cs : List α) (off n : Nat) (h : off + cs.length ≤ n) (hn : n ≤ L.length) : (L.take off ++ (cs ++ L.drop (off + cs.length))).take n = splice (L.take n) off cs := by
  unfold splice
  have e1 : (L.take n).take off = L.take off := by rw [List.take_take, Nat.min_eq_left (by omega)]
  have e2 : (L.take n).drop (off + cs.length) = (L.drop (off + cs.length)).take (n - (off + cs.length)) := by rw [List.drop_take]
  have hl : (L.take off).length = off := by rw [List.length_take]; omega
  rw [e1, e2, List.take_append, hl, List.take_of_length_le (l := L.take off) (by omega), List.take_append, List.take_of_length_le (l := cs) (by omega)]
  congr 3
  omega

/-- 'copy(out[off:], xs)', out a row of the call's own, xs no longer than what is left. -/
theorem wpList_copy_into {P : Program} {w : World} {ops : Array Oper} {rest : List Oper} {o : Oper} {a : Act} {Q : Exit → Act → World → Prop} (hgd : o.guard = none) (d s : Operand) (dT sT : TypeId)
    (ho : o.op = .call { callee := .builtin .copy, args := #[d, s], argTypes := #[dT, sT] }) (elem : TypeId) (hu : P.underlying dT = some (.slice elem)) (hsz : (P.info? elem).map (·.size) = some 1)
    (B : Nat) (E : TypeId) (g n cap : Nat) (fs : List Value) (hown : Own w B E (.slice (some ⟨g, 0, none⟩) n cap) fs)
    (off dLen dCap : Nat) (hd : a.eval d = .slice (some ⟨g, off, none⟩) dLen dCap)
    (ad : Addr) (m c : Nat) (hs : a.eval s = .slice (some ad) m c) (news : List Value) (hl : news.length = m) (hnews : ∀ j v, news[j]? = some v → w.cell? (ad.add j) = some v) (h1 : ∀ v ∈ news, v.oneCell' = true) (hm : m ≤ dLen) (hfit : off + m ≤ n)
    (h : ∀ w', Own w' B E (.slice (some ⟨g, 0, none⟩) n cap) (splice fs off news) → w.grownBy w' (some g) → wpList P ops Q rest (a.put o.dst (.int .i64 m)) w') : wpList P ops Q (o :: rest) a w := by
  have hn := hown.len
  subst hn
  subst hl
  have hlen := hown.1
  rcases hown.2 with ⟨hv, _⟩ | ⟨g', cap', cur, hv, hb, hg, h2, h3, h4, h5⟩
  · cases hv
  · injection hv with e1 e2 e3
    injection e1 with e1
    injection e1 with e1
    subst e1; subst e3
    rw [Nat.mul_one] at h4 h5 hlen
    have hcl : cur.toList.length = cap := by simpa using h4
    refine wpList_copy_own hgd d s dT sT ho elem hu hsz g off dLen dCap ad news.length c hd hs cur E hg news (Nat.min_eq_left hm).symm hnews (by omega) h1 ?_
    have hsp := splice_take cur.toList news off fs.length hfit (by omega)
    rw [h5] at hsp
    have hsl : (splice fs off news).length = fs.length := length_splice fs off news hfit
    refine h _ ?_ ⟨rfl, rfl, rfl, by simp [World.setRow], fun k hk hj => setRow_other w g k _ (by intro e; exact hj (by rw [e]))⟩
    unfold Own
    rw [hsl]
    refine ⟨by rw [Nat.mul_one]; exact hsl, .inr ⟨g, cap, _, rfl, hb, setRow_heap w g _ _ E _ hg, h2, h3, ?_, ?_⟩⟩
    · simp
      omega
    · simp only [Nat.mul_one]
      exact hsp
theorem ReadsI.news {w : World} {b o n c : Nat} {xs : List Int} (h : ReadsI w (.slice (some ⟨b, o, none⟩) n c) xs) : ∀ (q : Nat) (u : Value), (icells xs)[q]? = some u → w.cell? ((⟨b, o, none⟩ : Addr).add q) = some u := by
  have := h.news_drop 0
  rw [List.drop_zero] at this
  exact this
end Go
