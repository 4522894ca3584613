
/- NatSubs, NatOrders, NatMuls. -/
import Derived.Test.YtodpbkcdcchljaaRefD
namespace Go.Proofs.Ytodpbkcdcchljaa
open Go.RowKit

theorem own_sl {S : Nat → Prop} {w : World} {v : Value} {M L : Nat} (h : Num S w v M L) : ∃ A n c, v = .slice A n c := h.form

theorem cmp_n {S T : Nat → Prop} (w : World) (va vb : Value) (M N L K : Nat) (ha : Num S w va M L) (hb : Num T w vb N K) :
    Calls Try.prog 72 #[va, vb] w fun e w' => e = .returned (.int .i64 (cmpN M N)) ∧ Fr (fun k => k < w.heap.size) w w' := by
  obtain ⟨xs, a1, rfl, a3⟩ := ha
  obtain ⟨ys, b1, rfl, b3⟩ := hb
  exact cmp_calls w va vb xs ys a1 b1
theorem cmp_r' {S T : Nat → Prop} (w : World) (va vb : Value) (M N L K : Nat) (ha : RC S w va M L) (hb : RC T w vb N K) :
    Calls Try.prog 63 #[va, vb] w fun e w' => e = .returned (.int .i64 (cmpN M N)) ∧ Fr (fun k => k < w.heap.size) w w' :=
  (cmp_r w va vb M N L K ha hb).mono fun _ _ ⟨h1, h2⟩ => ⟨h1, h2.mono fun _ _ _ => trivial⟩
theorem sub_r_no {S T : Nat → Prop} (w : World) (va vb : Value) (M N L K : Nat) (ha : RC S w va M L) (hb : RC T w vb N K) (hlt : M < N) :
    Calls Try.prog 64 #[va, vb] w fun e w' => e = .returned (.tuple #[.slice none 0 0, .bool false]) ∧ Fr (fun k => k < w.heap.size) w w' := by
  have hc := cmp_r' w va vb M N L K ha hb
  rw [show cmpN M N = -1 from if_pos hlt] at hc
  have HC := Lib.hid hc
  clear hc
  go_enter Try.func64, Try.ntmps64
  go_wp2_with fail
  refine HC.out.mono ?_
  rintro e w1 ⟨rfl, hf1⟩
  go_wp2_with fail
  go_ret2
  exact ⟨rfl, hf1⟩

end Go.Proofs.Ytodpbkcdcchljaa
