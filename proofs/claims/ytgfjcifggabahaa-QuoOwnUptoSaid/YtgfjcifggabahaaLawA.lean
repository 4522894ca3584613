
/- Equal, Own, same, known; lists in memory. -/
import Derived.Test.YtgfjcifggabahaaNatG
namespace Go.Proofs.Ytgfjcifggabahaa
open Go.RowKit

/-- Limbs that a text lays. -/
theorem sl_lit {w : World} {t : TypeId} {b : Nat} (xs : List Nat) (cells : List Value) (hc : cells = xs.map (fun x => .int .u32 (x : Int))) (hx : ∀ x ∈ xs, x < LB) (hl : xs.length ≤ 1099511627000) (hb : w.heap[b]? = some (.cells cells.toArray t)) :
    Sl Lm (fun k => k < w.heap.size) w (.slice (some ⟨b, 0, none⟩) xs.length xs.length) xs := by
  refine ⟨some ⟨b, 0, none⟩, xs.length, rfl, Nat.le_refl _, by omega, fun h => by simp at h, fun _ => ⟨_, rfl, lt_of_block hb, fun i x hxi => ?_⟩⟩
  refine ⟨[.int .u32 (x : Int)], ⟨rfl, hx x (List.mem_of_getElem? hxi)⟩, fun j u hj => ?_⟩
  have hj0 : j = 0 := by
    have := (List.getElem?_eq_some_iff.1 hj).1
    simp at this; exact this
  subst hj0
  simp at hj
  subst hj
  rw [addr_lit, cell_of_row w b _ _ t (0, 0) hb, hc]
  simp [hxi, Lm, Kd.nat]

theorem fr_then {n : Nat} {a b c : World} (h : Fr (fun k => k < n) a b) (hf : Fr (fun k => k < b.heap.size) b c) : Fr (fun k => k < n) a c :=
  h.comp hf fun _ hk hs => ⟨hs, Nat.lt_of_lt_of_le hk h.size⟩

theorem val_ne_at {xs ys : List Nat} (hx : ∀ d ∈ xs, d < LB) (hy : ∀ d ∈ ys, d < LB) {i : Nat} (h : xs.getD i 0 ≠ ys.getD i 0) : ¬ val xs = val ys := fun e => h (by
  rw [ofB_get LBpos hx i, ofB_get LBpos hy i]; exact congrArg (fun n => n / LB ^ i % LB) e)

theorem same_iff {xs ys : List Nat} (hx : ∀ d ∈ xs, d < LB) (hy : ∀ d ∈ ys, d < LB) (hl : xs.length = ys.length) (he : val xs = val ys) : xs = ys := by
  refine List.ext_getElem hl fun i h1 h2 => ?_
  have := (ofB_get LBpos hx i).trans ((congrArg (fun n => n / LB ^ i % LB) he).trans (ofB_get LBpos hy i).symm)
  rwa [List.getD_eq_getElem?_getD, List.getD_eq_getElem?_getD, List.getElem?_eq_getElem h1, List.getElem?_eq_getElem h2] at this

end Go.Proofs.Ytgfjcifggabahaa
