
/- The reference's numbers: Of, Cmp, Canonical, Is, said of numbers. -/
import Derived.Test.YtodpbkcdcchljaaRefA
import Derived.Test.YtodpbkcdcchljaaNum
namespace Go.Proofs.Ytodpbkcdcchljaa
open Go.RowKit

/-- A reference's number in memory. -/
structure RC (S : Nat → Prop) (w : World) (v : Value) (N L : Nat) : Prop where
  sl : Sl Dg S w v (dg DB N)
  len : (dg DB N).length ≤ L
theorem RC.form {S : Nat → Prop} {w : World} {v : Value} {N L : Nat} (h : RC S w v N L) : ∃ A n c, v = .slice A n c := h.sl.form
theorem RC.keep {S : Nat → Prop} {w w' : World} {v : Value} {N L : Nat} (h : RC S w v N L) (hf : Fr (fun k => k < w.heap.size) w w') : RC S w' v N L := ⟨h.sl.keep' Dg_pos hf, h.len⟩
theorem RC.mono {S T : Nat → Prop} {w : World} {v : Value} {N L : Nat} (h : RC S w v N L) (hs : ∀ k, S k → T k) : RC T w v N L := ⟨h.sl.mono hs, h.len⟩
theorem RC.of {e : TypeId} {S : Nat → Prop} {w : World} {v : Value} {N L : Nat} (h : Own Dg e S w v (dg DB N)) (hl : N < DB ^ L) : RC S w v N L := ⟨h.sl, dg_len_le DB2 hl⟩
theorem RC.lt {S : Nat → Prop} {w : World} {v : Value} {N L : Nat} (h : RC S w v N L) : N < DB ^ L :=
  Nat.lt_of_lt_of_le (lt_pow_dg DB2 N) (Nat.pow_le_pow_right DBpos h.len)
theorem RC.len' {S : Nat → Prop} {w : World} {v : Value} {N L K : Nat} (h : RC S w v N L) (hl : N < DB ^ K) : RC S w v N K := ⟨h.sl, dg_len_le DB2 hl⟩
theorem RC.nil (S : Nat → Prop) (w : World) (L : Nat) : RC S w (.slice none 0 0) 0 L := ⟨by rw [dg_zero]; exact Sl.nil _ _ _, by rw [dg_zero]; simp⟩

theorem add_r {S T : Nat → Prop} (w : World) (va vb : Value) (M N L K : Nat) (ha : RC S w va M L) (hb : RC T w vb N K) (hl : L ≤ 1099511627000) (hk : K ≤ 1099511627000) :
    Calls Try.prog 55 #[va, vb] w fun e w' => ∃ v, e = .returned v ∧ RC (fun k => w.heap.size ≤ k) w' v (M + N) (max L K + 1) ∧ Fr (fun k => k < w.heap.size) w w' := by
  refine (radd_calls w va vb M N ha.sl hb.sl (Nat.le_trans ha.len hl) (Nat.le_trans hb.len hk)).mono ?_
  rintro e w' ⟨v, rfl, h, hf⟩
  refine ⟨v, rfl, .of h ?_, hf⟩
  have h1 : DB ^ L ≤ DB ^ max L K := Nat.pow_le_pow_right DBpos (by omega)
  have h2 : DB ^ K ≤ DB ^ max L K := Nat.pow_le_pow_right DBpos (by omega)
  have h3 : DB ^ max L K * 2 ≤ DB ^ max L K * DB := Nat.mul_le_mul_left _ DB2
  have := ha.lt
  have := hb.lt
  rw [Nat.pow_succ]
  omega
theorem times_r {S : Nat → Prop} (w : World) (va : Value) (N L m : Nat) (ha : RC S w va N L) (hm : m ≤ 4294967296) (hl : L ≤ 1099511627000) :
    Calls Try.prog 56 #[va, .int .i64 m] w fun e w' => ∃ v, e = .returned v ∧ RC (fun k => w.heap.size ≤ k) w' v (N * m) (L + 3) ∧ Fr (fun k => k < w.heap.size) w w' := by
  have h1 := ha.lt
  refine (times_calls w va _ m ha.sl hm (Nat.le_trans ha.len hl)).mono ?_
  rintro e w' ⟨v, rfl, h, hf⟩
  rw [val_dd] at h
  refine ⟨v, rfl, .of h ?_, hf⟩
  rw [Nat.pow_add]
  exact Nat.mul_lt_mul_of_lt_of_le h1 (Nat.le_trans hm (by decide)) (by decide)
theorem times_64k {S : Nat → Prop} (w : World) (va : Value) (N L : Nat) (ha : RC S w va N L) (hl : L ≤ 1099511627000) :
    Calls Try.prog 56 #[va, .int .i64 65536] w fun e w' => ∃ v, e = .returned v ∧ RC (fun k => w.heap.size ≤ k) w' v (N * 65536) (L + 3) ∧ Fr (fun k => k < w.heap.size) w w' :=
  times_r w va N L 65536 ha (by decide) hl
theorem small_r (w : World) (n L : Nat) (hn : n < 9223372036854775808) (hL : n < DB ^ L) :
    Calls Try.prog 57 #[.int .i64 n] w fun e w' => ∃ v, e = .returned v ∧ RC (fun k => w.heap.size ≤ k) w' v n L ∧ Fr (fun k => k < w.heap.size) w w' := by
  refine (small_calls w n hn).mono ?_
  rintro e w' ⟨v, rfl, h, hf⟩
  exact ⟨v, rfl, .of h hL, hf⟩

theorem LB_DB (k : Nat) : LB ^ k ≤ DB ^ (3 * k) := by
  rw [Nat.pow_mul]; exact Nat.pow_le_pow_left (by decide) k
theorem drop_val {xs : List Nat} {k : Nat} (h : k < xs.length) : val (xs.drop k) = val (xs.drop (k + 1)) * 65536 * 65536 + xs[k] := by
  rw [List.drop_eq_getElem_cons h]
  show xs[k] + LB * val (xs.drop (k + 1)) = _
  unfold LB; omega
theorem drop_lt {xs : List Nat} (hd : ∀ d ∈ xs, d < LB) (k : Nat) : val (xs.drop k) < DB ^ (3 * (xs.length - k)) := by
  have := ofB_lt (b := LB) (l := xs.drop k) (fun d h => hd d (List.mem_of_mem_drop h))
  rw [List.length_drop] at this
  exact Nat.lt_of_lt_of_le this (LB_DB _)

set_option maxHeartbeats 1000000 in
theorem of_r {S : Nat → Prop} (w : World) (va : Value) (N L : Nat) (ha : Num S w va N L) (hL : L ≤ 1099511620) :
    Calls Try.prog 21 #[va] w fun e w' => ∃ v, e = .returned v ∧ RC (fun k => w.heap.size ≤ k) w' v N (3 * L) ∧ Fr (fun k => k < w.heap.size) w w' := by
  have hlt := ha.lt
  obtain ⟨xs, hx, rfl, hl⟩ := ha
  have hd := Kd.nat_all hx
  obtain ⟨A, c, rfl, _, _, hlx⟩ := hx.slice
  have HX := Lib.hid (hx.up Lm_pos (Nat.le_refl _) (Fr.refl _ _))
  clear hx
  go_enter Try.func21, Try.ntmps21
  go_wp2_with fail
  go_loopw [3, 4] (fun o i wr => ∃ (k : Nat), k ≤ xs.length ∧ i = .int .i64 ((k : Int) - 1) ∧ RC (fun k => w.heap.size ≤ k) wr o (val (xs.drop k)) (3 * (xs.length - k)) ∧ Fr (fun k => k < w.heap.size) w wr) (fun _ i _ => (intOf i + 1).toNat)
  case atStart => exact ⟨xs.length, Nat.le_refl _, rfl, by rw [List.drop_length]; exact RC.nil _ _ _, Fr.refl _ _⟩
  case round =>
    obtain ⟨k, hk, rfl, ho, hfr⟩ := hrel
    by_cases h0 : 0 < k
    · obtain ⟨j, rfl⟩ : ∃ j, k = j + 1 := ⟨k - 1, by omega⟩
      have hval := drop_val (xs := xs) (k := j) (by omega)
      have hlt1 := drop_lt hd j
      obtain ⟨ad, rfl, hc, hm⟩ := Kd.nat_cell HX.out (i := j) (by omega)
      have hc1 := hfr.drew.cell hc (World.block_lt_of_cell? _ _ hc)
      generalize xs[j] = y at hval hc hc1 hm
      generalize val (xs.drop (j + 1)) = M at hval ho
      have hm' : y < 4294967296 := hm
      have hidx : ((j + 1 : Nat) : Int) - 1 = (j : Int) := by omega
      rw [hidx]
      have HV := Lib.hid (And.intro hval hlt1)
      clear hval hlt1 hidx
      have hoD : RC (fun k => w.heap.size ≤ k) wr.drew u3 M (3 * (xs.length - (j + 1))) := ⟨ho.sl.fr (Fr.refl _ _).drew, ho.len⟩
      have hlt2 := World.block_lt_of_cell? _ _ hc1
      have hwrap : IntKind.i64.wrap (y : Int) = (y : Int) := by rw [IntKind.wrap_i64]; omega
      have hfD := hfr.drew
      have hadw := World.block_lt_of_cell? _ _ hc
      have hsz := hfD.size
      clear ho hfr
      go_wp2_with fail
      go_region_with (first
        | ((with_reducible refine (times_64k _ u3 M _ hoD (by omega)).mono ?_); rintro e w1 ⟨v1, rfl, ho1, hf1⟩; have hc2 := hf1.cell hc1 hlt2; have hlt3 := World.block_lt_of_cell? _ _ hc2; have hsz1 := hf1.size)
        | ((with_reducible refine (times_64k _ v1 (M * 65536) _ ho1 (by omega)).mono ?_); rintro e w2 ⟨v2, rfl, ho2, hf2⟩; have hc3 := hf2.cell hc2 hlt3; have hsz2 := hf2.size)
        | ((with_reducible refine (small_r _ y 3 (by omega) (Nat.lt_of_lt_of_le hm' (by decide))).mono ?_); rintro e w3 ⟨v3, rfl, ho3, hf3⟩; have hsz3 := hf3.size)
        | ((with_reducible refine (add_r _ v2 v3 (M * 65536 * 65536) y _ _ (ho2.keep hf3) ho3 (by omega) (by omega)).mono ?_); rintro e w4 ⟨v4, rfl, ho4, hf4⟩))
      all_goals
        go_wp2_with fail
        go_roundw
        case rel =>
          have hF := fr_then (fr_then (fr_then (fr_then hfD hf1) hf2) hf3) hf4
          have ho5 := ho4.mono (T := fun k => w.heap.size ≤ k) (fun k hk => by omega)
          rw [← HV.out.1] at ho5
          exact ⟨j, by omega, by go_num, ho5.len' HV.out.2, hF⟩
        case measure => first | (simp [intOf]; done) | (simp [intOf]; omega)
    · obtain rfl : k = 0 := by omega
      go_wp2_with fail
      go_ret
      rw [List.drop_zero] at ho
      exact ⟨_, rfl, ho.len' (Nat.lt_of_lt_of_le hlt (LB_DB _)), hfr⟩
end Go.Proofs.Ytodpbkcdcchljaa
