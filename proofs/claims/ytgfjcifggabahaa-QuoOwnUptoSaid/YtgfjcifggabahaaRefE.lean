
/- The reference's Short, Bits, Power. -/
import Derived.Test.YtgfjcifggabahaaRefD
namespace Go.Proofs.Ytgfjcifggabahaa
open Go.RowKit

def rowOf (qs : List Nat) : Array Value := (qs.map fun q : Nat => Value.int .i64 (q : Int)).toArray
/-- A row of numbers in a block of its own. -/
def Row (w : World) (g : Nat) (qs : List Nat) : Prop := w.heap[g]? = some (.cells (rowOf qs) 3)
theorem Row.free {w : World} {g : Nat} {qs : List Nat} (h : Row w g qs) (j : Nat) : w.frozen? ⟨g, j, none⟩ = false := frozen_of_row w g j _ _ h
theorem Row.lt {w : World} {g : Nat} {qs : List Nat} (h : Row w g qs) : g < w.heap.size := lt_of_block h
theorem Row.cell {w : World} {g : Nat} {qs : List Nat} (h : Row w g qs) {j : Nat} (hj : j < qs.length) : w.cell? ⟨g, j, none⟩ = some (.int .i64 (qs[j] : Int)) := by
  rw [cell_of_row w g j _ _ (0, 0) h]
  simp [rowOf, hj]
theorem Row.set {w : World} {g : Nat} {qs : List Nat} (h : Row w g qs) (j q : Nat) : Row (w.setCell ⟨g, j, none⟩ (.int .i64 (q : Int))) g (qs.set j q) := by
  have h1 : w.heap[g]? = some (.cells (rowOf qs) 3 (0, 0)) := h
  unfold Row
  simp only [World.setCell, Array.getElem?_modify, h1, if_true, Option.map_some]
  congr 2
  apply Array.ext'
  simp [rowOf, List.map_set]
theorem Row.own {S : Nat → Prop} {w : World} {g : Nat} {qs : List Nat} (h : Row w g qs) (hS : S g) (hd : ∀ q ∈ qs, q < DB) (hl : qs.length ≤ 1099511627000) : Own Dg 3 S w (.slice (some ⟨g, 0, none⟩) qs.length qs.length) qs := by
  refine ⟨qs.map fun q : Nat => Value.int .i64 (q : Int), ⟨by simp [Dg, Kd.nat], .inr ⟨g, qs.length, rowOf qs, rfl, Nat.zero_le _, h, Nat.le_refl _, by unfold maxLen; omega, by simp [rowOf, Dg, Kd.nat], ?_⟩⟩, fun k hk => by simp [Value.ownBlock] at hk; subst hk; exact hS, fun i x hx => ⟨[.int .i64 (x : Int)], ⟨rfl, hd x (List.mem_of_getElem? hx)⟩, fun j u hj => ?_⟩⟩
  · rw [List.take_of_length_le (by simp [rowOf, Dg, Kd.nat])]; simp [rowOf]
  · have hj0 : j = 0 := by
      have := (List.getElem?_eq_some_iff.1 hj).1
      simp at this; exact this
    subst hj0
    simp at hj
    subst hj
    simp [Dg, Kd.nat, hx]
theorem Row.fr {S : Nat → Prop} {w w' : World} {g : Nat} {qs : List Nat} (h : Row w g qs) (hf : Fr S w w') (hS : S g) : Row w' g qs := hf.obj h hS

structure ShortN (xs : List Nat) (d k : Nat) (qs : List Nat) (r : Nat) : Prop where
  len : qs.length = xs.length
  small : ∀ q ∈ qs, q < DB
  rest : r < d
  sum : ofB DB (xs.drop k) = d * ofB DB (qs.drop k) + r
theorem ShortN.step {xs : List Nat} {d j : Nat} {qs : List Nat} {r x : Nat} (h : ShortN xs d (j + 1) qs r) (hj : j < xs.length) (hx : ∀ d ∈ xs, d < DB) (e : x = r * DB + xs[j]) : x / d < DB ∧ ShortN xs d j (qs.set j (x / d)) (x % d) := by
  obtain ⟨h1, h2, h3, h4⟩ := h
  have hxj := hx xs[j] (List.getElem_mem hj)
  have hq : x / d < DB := by
    refine Nat.div_lt_of_lt_mul ?_
    have h5 := Nat.mul_le_mul_right DB (show r + 1 ≤ d from h3)
    rw [Nat.add_mul, Nat.one_mul] at h5
    omega
  refine ⟨hq, by simp [h1], ?_, Nat.mod_lt _ (by omega), ?_⟩
  · intro q hm
    rcases List.mem_or_eq_of_mem_set hm with h | rfl
    · exact h2 q h
    · exact hq
  · have e1 : (qs.set j (x / d)).drop j = x / d :: qs.drop (j + 1) := by
      rw [List.drop_eq_getElem_cons (by simp; omega)]
      simp [List.drop_set_of_lt]
    have e2 := Nat.div_add_mod x d
    have h4' := congrArg (fun n => DB * n) h4
    simp only [Nat.mul_add] at h4'
    rw [e1, List.drop_eq_getElem_cons hj]
    show xs[j] + DB * ofB DB (xs.drop (j + 1)) = d * (x / d + DB * ofB DB (qs.drop (j + 1))) + x % d
    rw [Nat.mul_add, Nat.mul_left_comm d DB, h4', Nat.mul_comm DB r]
    omega

theorem blen_le {n L : Nat} (h : n < DB ^ L) : blen n ≤ 14 * L := dg_len_le (by decide) (by
  rw [Nat.pow_mul]
  exact Nat.lt_of_lt_of_le h (Nat.pow_le_pow_left (by decide) L))

end Go.Proofs.Ytgfjcifggabahaa
