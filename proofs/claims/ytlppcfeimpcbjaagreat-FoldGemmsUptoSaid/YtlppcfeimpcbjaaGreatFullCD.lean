/- Texts merged: FullC, FullD. -/
import Derived.Test.YtlppcfeimpcbjaaGreatRepeat
import Derived.Test.YtlppcfeimpcbjaaGreatFullAB
import Derived.Test.YtlppcfeimpcbjaaGreatIdxAB
set_option linter.unusedSimpArgs false
set_option linter.unusedVariables false

/- tensor.Full, Scalar. -/
namespace Go.Proofs.YtlppcfeimpcbjaaGreat
open Go.RowKit

/-- A row of one rational, so many times: it reads as a list. -/
theorem rep_sl {S : Nat → Prop} {w : World} {g N : Nat} {s : Bool} {vn vd : Value} {xs ys : List Nat} (hx : Sl Lm S w vn xs) (hy : Sl Lm S w vd ys) (hg : w.heap[g]? = some (.cells (List.replicate N [.bool s, vn, vd]).flatten.toArray 54 (0, 0))) (hN : N ≤ 1024) :
    Sl Rm (fun _ => True) w (.slice (some ⟨g, 0, none⟩) N N) (List.replicate N (s, xs, ys)) := by
  refine ⟨some ⟨g, 0, none⟩, N, by rw [List.length_replicate], by rw [List.length_replicate]; exact Nat.le_refl _, by omega, fun h => by simp at h, fun _ => ⟨_, rfl, trivial, fun i x hx' => ?_⟩⟩
  have hi : i < N := by have := (List.getElem?_eq_some_iff.1 hx').1; rwa [List.length_replicate] at this
  rw [List.getElem?_replicate, if_pos hi] at hx'
  cases hx'
  refine ⟨[.bool s, vn, vd], ⟨vn, vd, rfl, hx.any, hy.any⟩, fun j u hj => ?_⟩
  have hj3 : j < 3 := by have := (List.getElem?_eq_some_iff.1 hj).1; simpa using this
  rw [addr_lit, cell_of_row w g _ _ _ (0, 0) hg, Nat.zero_add, List.getElem?_toArray, show Rm.size = 3 from rfl]
  rw [rep_get rfl (by omega), show (i * 3 + j) % 3 = j by omega]
  exact hj

/-- What Full answers. -/
def FullE (sh : List Int) : Int := mayS sh
theorem fits_rep {sh : List Int} (h : mayS sh = 0) {x : RatL} : fitsT sh (List.replicate (cntS sh).toNat x).length = 0 := by
  obtain ⟨h4, h1, h2⟩ := mayS_ok h
  have := pr_pos h1
  refine fitsT_0 h ?_
  rw [List.length_replicate, cntS_ok h]
  omega
def FullR (w : World) (sh : List Int) (x : RatL) (r : Int) (e : Ending) (w' : World) : Prop := ∃ v1 v2, e = .returned (.tuple #[.agg #[v1, v2], .int .i64 r]) ∧ (r ≠ 0 → v1 = .slice none 0 0 ∧ v2 = .slice none 0 0) ∧
  (r = 0 → Own Im 3 (fun k => w.heap.size ≤ k) w' v1 sh ∧ Own Rm 54 (fun k => w.heap.size ≤ k) w' v2 (List.replicate (cntS sh).toNat (normR x))) ∧ Fr (fun k => k < w.heap.size) w w'

end Go.Proofs.YtlppcfeimpcbjaaGreat


/- fluxionref07.Full. -/
namespace Go.Proofs.YtlppcfeimpcbjaaGreat
open Go.RowKit

end Go.Proofs.YtlppcfeimpcbjaaGreat
