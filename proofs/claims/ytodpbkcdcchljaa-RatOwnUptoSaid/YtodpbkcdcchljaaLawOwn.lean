
/- NatOwn. -/
import Derived.Test.YtodpbkcdcchljaaNum
namespace Go.Proofs.Ytodpbkcdcchljaa
open Go.RowKit

/-- Limbs that may vary: a slice of the call's own, in a block between two bounds, of whatever limbs. -/
def Vary (lo hi : Nat) (w : World) (v : Value) : Prop := v = .slice none 0 0 ∨ ∃ g n c, v = .slice (some ⟨g, 0, none⟩) n c ∧ lo ≤ g ∧ g < hi ∧ n ≤ 9223372036854775807 ∧
  ∃ cur : Array Value, w.heap[g]? = some (.cells cur 62 (0, 0)) ∧ ∀ j, j < n → ∃ z : Nat, cur[j]? = some (.int .u32 (z : Int)) ∧ z < LB
theorem Vary.of {lo hi : Nat} {S : Nat → Prop} {w : World} {v : Value} {xs : List Nat} (h : Own Lm 62 S w v xs) (hS : ∀ k, S k → lo ≤ k) (hh : w.heap.size ≤ hi) : Vary lo hi w v := by
  have hlt := h.lt
  obtain ⟨cells, ⟨hl, h1⟩, h2, h3⟩ := h
  rcases h1 with ⟨rfl, _⟩ | ⟨g, cap, cur, rfl, _, hg, hcap, hmax, hsz, htk⟩
  · exact .inl rfl
  · refine .inr ⟨g, xs.length, cap, rfl, hS _ (h2 g rfl), Nat.lt_of_lt_of_le (hlt g rfl) hh, by unfold maxLen at hmax; omega, cur, hg, fun j hj => ?_⟩
    obtain ⟨cs, ⟨rfl, hz⟩, hc⟩ := h3 j xs[j] (List.getElem?_eq_getElem hj)
    have h5 := hc 0 _ rfl
    refine ⟨xs[j], ?_, hz⟩
    rw [← htk, List.getElem?_take] at h5
    split at h5
    · simpa [Lm, Kd.nat] using h5
    · cases h5
theorem Vary.fr {lo hi : Nat} {S : Nat → Prop} {w w' : World} {v : Value} (h : Vary lo hi w v) (hf : Fr S w w') (hS : ∀ k, lo ≤ k → k < hi → S k) : Vary lo hi w' v := by
  rcases h with h | ⟨g, n, c, h1, h2, h3, h4, cur, h5, h6⟩
  · exact .inl h
  · exact .inr ⟨g, n, c, h1, h2, h3, h4, cur, hf.obj h5 (hS g h2 h3), h6⟩
theorem Vary.up {lo hi hi' : Nat} {w : World} {v : Value} (h : Vary lo hi w v) (hh : hi ≤ hi') : Vary lo hi' w v := by
  rcases h with h | ⟨g, n, c, h1, h2, h3, h4, h5⟩
  · exact .inl h
  · exact .inr ⟨g, n, c, h1, h2, by omega, h4, h5⟩
theorem Vary.set {lo hi : Nat} {w : World} {v : Value} (h : Vary lo hi w v) (g k z : Nat) (hz : z < LB) : Vary lo hi (w.setCell ⟨g, k, none⟩ (.int .u32 (z : Int))) v := by
  rcases h with h | ⟨g', n, c, h1, h2, h3, h4, cur, h5, h6⟩
  · exact .inl h
  · refine .inr ⟨g', n, c, h1, h2, h3, h4, ?_⟩
    by_cases e : g = g'
    · subst e
      refine ⟨cur.setIfInBounds k (.int .u32 (z : Int)), by simp [World.setCell, Array.getElem?_modify, h5], fun j hj => ?_⟩
      obtain ⟨z', hc, hz'⟩ := h6 j hj
      by_cases ejk : k = j
      · subst ejk
        have : k < cur.size := (Array.getElem?_eq_some_iff.1 hc).1
        exact ⟨z, by simp [this], hz⟩
      · exact ⟨z', by rw [Array.getElem?_setIfInBounds_ne ejk]; exact hc, hz'⟩
    · exact ⟨cur, (Below.heap_setCell w ⟨g, k, none⟩ _ g' (fun h => e h.symm)).trans h5, h6⟩

theorem Vary.form {lo hi : Nat} {w : World} {v : Value} (h : Vary lo hi w v) : ∃ A n c, v = .slice A n c := by
  rcases h with h | ⟨g, n, c, h, _⟩
  · exact ⟨_, _, _, h⟩
  · exact ⟨_, _, _, h⟩

theorem sub_any {S T : Nat → Prop} (w : World) (va vb : Value) (xs ys : List Nat) (ha : Sl Lm S w va xs) (hb : Sl Lm T w vb ys) (hxl : xs.length ≤ 1099511627000) :
    Calls Try.prog 85 #[va, vb] w fun e w' => ∃ v k ds, e = .returned (.tuple #[v, .int .i64 k]) ∧ Own Lm 62 (fun k => w.heap.size ≤ k) w' v ds ∧ Fr (fun k => k < w.heap.size) w w' := by
  refine (sub_calls w va vb xs ys ha hb hxl).mono ?_
  rintro e w' ⟨hf, ⟨_, rfl⟩ | ⟨_, v, rfl, h⟩⟩
  · exact ⟨_, _, [], rfl, Own.nil _ _ _ _, hf⟩
  · exact ⟨_, _, _, rfl, h, hf⟩

end Go.Proofs.Ytodpbkcdcchljaa
