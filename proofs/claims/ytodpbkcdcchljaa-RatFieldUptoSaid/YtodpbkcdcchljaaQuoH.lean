
/- known of the second chapter. -/
import Derived.Test.YtodpbkcdcchljaaQuoG
import Derived.Test.YtodpbkcdcchljaaLawA
namespace Go.Proofs.Ytodpbkcdcchljaa
open Go.RowKit

theorem small_1 (w : World) : Calls Try.prog 57 #[.int .i64 1] w fun e w' => ∃ v, e = .returned v ∧ RC (fun k => w.heap.size ≤ k) w' v 1 1 ∧ Fr (fun k => k < w.heap.size) w w' := small_r w 1 1 (by decide) (by decide)
theorem small_5 (w : World) : Calls Try.prog 57 #[.int .i64 5] w fun e w' => ∃ v, e = .returned v ∧ RC (fun k => w.heap.size ≤ k) w' v 5 1 ∧ Fr (fun k => k < w.heap.size) w w' := small_r w 5 1 (by decide) (by decide)
theorem small_6 (w : World) : Calls Try.prog 57 #[.int .i64 6] w fun e w' => ∃ v, e = .returned v ∧ RC (fun k => w.heap.size ≤ k) w' v 6 1 ∧ Fr (fun k => k < w.heap.size) w w' := small_r w 6 1 (by decide) (by decide)
theorem small_343 (w : World) : Calls Try.prog 57 #[.int .i64 343] w fun e w' => ∃ v, e = .returned v ∧ RC (fun k => w.heap.size ≤ k) w' v 343 1 ∧ Fr (fun k => k < w.heap.size) w w' := small_r w 343 1 (by decide) (by decide)
theorem of_lit (w : World) (n : Nat) (i : Int) (h : i = n) (hn : n < 18446744073709551616) : Calls Try.prog 71 #[.int .u64 i] w fun e w' => ∃ v, e = .returned v ∧ Can (fun k => w.heap.size ≤ k) w' v n 2 ∧ Fr (fun k => k < w.heap.size) w w' := by
  subst h; exact of_n w n hn
theorem pow_lit {S : Nat → Prop} (w : World) (va : Value) (A L n X : Nat) (i : Int) (h : i = n) (ha : Num S w va A L) (hl : L ≤ X) (hX : X ≤ 104857600) (hn : n < 9223372036854775808) (hp : A ^ n < LB ^ X) (hX2 : 2 ≤ X) :
    Calls Try.prog 70 #[va, .int .i64 i] w fun e w' => ∃ v, e = .returned v ∧ Can (fun k => w.heap.size ≤ k) w' v (A ^ n) X ∧ Fr (fun k => k < w.heap.size) w w' := by
  subst h; exact pow_n w va A L n X ha hl hX hn hp hX2
theorem num_lit {w : World} {t : TypeId} {b : Nat} (xs : List Nat) (cells : List Value) (N : Nat) (hN : val xs = N) (hc : cells = xs.map (fun x => .int .u32 (x : Int))) (hx : ∀ x ∈ xs, x < LB) (hl : xs.length ≤ 3) (hb : w.heap[b]? = some (.cells cells.toArray t)) :
    Num (fun k => k < w.heap.size) w (.slice (some ⟨b, 0, none⟩) xs.length xs.length) N 3 := ⟨xs, sl_lit xs cells hc hx (by omega) hb, hN, hl⟩

end Go.Proofs.Ytodpbkcdcchljaa
