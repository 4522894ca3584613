
/- Numbers in memory: what is read (Num), what is answered (Can); the contracts said of them. -/
import Derived.Test.YtodpbkcdcchljaaLawB
namespace Go.Proofs.Ytodpbkcdcchljaa
open Go.RowKit

/-- Limbs of a number, noughts at the end or not. -/
def Num (S : Nat → Prop) (w : World) (v : Value) (N L : Nat) : Prop := ∃ xs, Sl Lm S w v xs ∧ val xs = N ∧ xs.length ≤ L
/-- A number's limbs, as they are answered. -/
structure Can (S : Nat → Prop) (w : World) (v : Value) (N L : Nat) : Prop where
  own : Own Lm 62 S w v (dg LB N)
  len : (dg LB N).length ≤ L
theorem Can.sl {S : Nat → Prop} {w : World} {v : Value} {N L : Nat} (h : Can S w v N L) : Sl Lm S w v (dg LB N) := h.own.sl
theorem Can.num {S : Nat → Prop} {w : World} {v : Value} {N L : Nat} (h : Can S w v N L) : Num S w v N L := ⟨_, h.sl, val_dg N, h.len⟩
theorem Can.form {S : Nat → Prop} {w : World} {v : Value} {N L : Nat} (h : Can S w v N L) : ∃ A n c, v = .slice A n c := h.sl.form
theorem Num.form {S : Nat → Prop} {w : World} {v : Value} {N L : Nat} (h : Num S w v N L) : ∃ A n c, v = .slice A n c := by obtain ⟨_, h, _⟩ := h; exact h.form
theorem Can.keep {S : Nat → Prop} {w w' : World} {v : Value} {N L : Nat} (h : Can S w v N L) (hf : Fr (fun k => k < w.heap.size) w w') : Can S w' v N L := ⟨h.own.keep' hf, h.len⟩
theorem Num.keep {S : Nat → Prop} {w w' : World} {v : Value} {N L : Nat} (h : Num S w v N L) (hf : Fr (fun k => k < w.heap.size) w w') : Num S w' v N L := by
  obtain ⟨xs, h1, h2⟩ := h
  exact ⟨xs, h1.keep' Lm_pos hf, h2⟩
theorem Can.fr {S : Nat → Prop} {w w' : World} {v : Value} {N L : Nat} (h : Can S w v N L) (hf : Fr S w w') : Can S w' v N L := ⟨h.own.fr hf, h.len⟩
theorem Num.lt {S : Nat → Prop} {w : World} {v : Value} {N L : Nat} (h : Num S w v N L) : N < LB ^ L := by
  obtain ⟨xs, h1, rfl, h3⟩ := h
  exact Nat.lt_of_lt_of_le (ofB_lt (Kd.nat_all h1)) (Nat.pow_le_pow_right LBpos h3)
theorem Can.of {S : Nat → Prop} {w : World} {v : Value} {N L : Nat} (h : Own Lm 62 S w v (dg LB N)) (hl : N < LB ^ L) : Can S w v N L := ⟨h, dg_len_le LB2 hl⟩

theorem add_n {S T : Nat → Prop} (w : World) (va vb : Value) (M N L K : Nat) (ha : Num S w va M L) (hb : Num T w vb N K) (hl : L ≤ 1099511627000) (hk : K ≤ 1099511627000) :
    Calls Try.prog 84 #[va, vb] w fun e w' => ∃ v, e = .returned v ∧ Can (fun k => w.heap.size ≤ k) w' v (M + N) (L + K + 1) ∧ Fr (fun k => k < w.heap.size) w w' := by
  have hm := ha.lt
  have hn := hb.lt
  obtain ⟨xs, a1, rfl, a3⟩ := ha
  obtain ⟨ys, b1, rfl, b3⟩ := hb
  refine (add_calls w va vb xs ys a1 b1 (by omega) (by omega)).mono ?_
  rintro e w' ⟨v, rfl, h, hf⟩
  refine ⟨v, rfl, .of h ?_, hf⟩
  have h1 : LB ^ L ≤ LB ^ (L + K) := Nat.pow_le_pow_right LBpos (by omega)
  have h2 : LB ^ K ≤ LB ^ (L + K) := Nat.pow_le_pow_right LBpos (by omega)
  rw [Nat.pow_succ]
  have h3 : LB ^ (L + K) * 2 ≤ LB ^ (L + K) * LB := Nat.mul_le_mul_left _ LB2
  omega
theorem mul_n {S T : Nat → Prop} (w : World) (va vb : Value) (M N L K : Nat) (ha : Num S w va M L) (hb : Num T w vb N K) (hl : L + K ≤ 1099511626000) :
    Calls Try.prog 82 #[va, vb] w fun e w' => ∃ v, e = .returned v ∧ Can (fun k => w.heap.size ≤ k) w' v (M * N) (L + K) ∧ Fr (fun k => k < w.heap.size) w w' := by
  have hm := ha.lt
  have hn := hb.lt
  obtain ⟨xs, a1, rfl, a3⟩ := ha
  obtain ⟨ys, b1, rfl, b3⟩ := hb
  refine (mul_calls w va vb xs ys a1 b1 (by omega)).mono ?_
  rintro e w' ⟨v, rfl, h, hf⟩
  exact ⟨v, rfl, .of h (by rw [Nat.pow_add]; exact Nat.mul_lt_mul_of_lt_of_lt hm hn), hf⟩
theorem sub_n {S T : Nat → Prop} (w : World) (va vb : Value) (M N L K : Nat) (ha : Num S w va M L) (hb : Num T w vb N K) (hl : L ≤ 1099511627000) (hle : N ≤ M) :
    Calls Try.prog 85 #[va, vb] w fun e w' => ∃ v, e = .returned (.tuple #[v, .int .i64 0]) ∧ Can (fun k => w.heap.size ≤ k) w' v (M - N) L ∧ Fr (fun k => k < w.heap.size) w w' := by
  have hm := ha.lt
  obtain ⟨xs, a1, rfl, a3⟩ := ha
  obtain ⟨ys, b1, rfl, b3⟩ := hb
  refine (sub_calls w va vb xs ys a1 b1 (by omega)).mono ?_
  rintro e w' ⟨hf, ⟨hlt, _⟩ | ⟨_, v, rfl, h⟩⟩
  · omega
  · exact ⟨v, rfl, .of h (by omega), hf⟩
theorem sub_no {S T : Nat → Prop} (w : World) (va vb : Value) (M N L K : Nat) (ha : Num S w va M L) (hb : Num T w vb N K) (hl : L ≤ 1099511627000) (hlt : M < N) :
    Calls Try.prog 85 #[va, vb] w fun e w' => e = .returned (.tuple #[.slice none 0 0, .int .i64 20]) ∧ Fr (fun k => k < w.heap.size) w w' := by
  obtain ⟨xs, a1, rfl, a3⟩ := ha
  obtain ⟨ys, b1, rfl, b3⟩ := hb
  refine (sub_calls w va vb xs ys a1 b1 (by omega)).mono ?_
  rintro e w' ⟨hf, ⟨_, rfl⟩ | ⟨hle, _⟩⟩
  · exact ⟨rfl, hf⟩
  · omega
theorem trim_n {S : Nat → Prop} (w : World) (va : Value) (M L : Nat) (ha : Num S w va M L) (hl : L ≤ 1099511627000) :
    Calls Try.prog 76 #[va] w fun e w' => ∃ v, e = .returned v ∧ Can (fun k => w.heap.size ≤ k) w' v M L ∧ Fr (fun k => k < w.heap.size) w w' := by
  have hm := ha.lt
  obtain ⟨xs, a1, rfl, a3⟩ := ha
  refine (trim_calls w va xs a1 (by omega)).mono ?_
  rintro e w' ⟨v, rfl, h, hf⟩
  exact ⟨v, rfl, .of h hm, hf⟩
theorem own_n {S : Nat → Prop} (w : World) (va : Value) (M L : Nat) (ha : Num S w va M L) (hl : L ≤ 1099511627000) :
    Calls Try.prog 20 #[va] w fun e w' => ∃ v, e = .returned v ∧ Num (fun k => w.heap.size ≤ k) w' v M L ∧ Fr (fun k => k < w.heap.size) w w' := by
  obtain ⟨xs, a1, rfl, a3⟩ := ha
  refine (own_calls w va xs a1 (by omega)).mono ?_
  rintro e w' ⟨v, rfl, h, hf⟩
  exact ⟨v, rfl, ⟨xs, h.sl, rfl, a3⟩, hf⟩
theorem equal_n {S T : Nat → Prop} (w : World) (va vb : Value) (M N L K : Nat) (ha : Num S w va M L) (hb : Num T w vb N K) (he : M = N) :
    Calls Try.prog 46 #[va, vb] w fun e w' => e = .returned (.bool true) ∧ w' = w := by
  obtain ⟨xs, a1, a2, a3⟩ := ha
  obtain ⟨ys, b1, b2, b3⟩ := hb
  have := equal_calls w va vb xs ys a1 b1
  rwa [decide_eq_true (by omega)] at this
end Go.Proofs.Ytodpbkcdcchljaa
