
/- NatOf. -/
import Derived.Test.YtodpbkcdcchljaaLawBits
namespace Go.Proofs.Ytodpbkcdcchljaa
open Go.RowKit

theorem of_n (w : World) (n : Nat) (hn : n < 18446744073709551616) :
    Calls Try.prog 71 #[.int .u64 n] w fun e w' => ∃ v, e = .returned v ∧ Can (fun k => w.heap.size ≤ k) w' v n 2 ∧ Fr (fun k => k < w.heap.size) w w' := by
  refine (of_calls w n hn).mono ?_
  rintro e w' ⟨v, rfl, h, hf⟩
  exact ⟨v, rfl, .of h (by unfold LB; simpa using hn), hf⟩
theorem blen_64 (a : Nat) : blen a ≤ 64 ↔ a < 18446744073709551616 := by
  constructor
  · intro h
    exact Nat.lt_of_lt_of_le (lt_blen a) (Nat.pow_le_pow_right (n := 2) (by decide) h)
  · intro h
    exact dg_len_le (by decide) (by simpa using h)

end Go.Proofs.Ytodpbkcdcchljaa
