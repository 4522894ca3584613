
/- quo.Gcd, Pow, Divides; is, known. -/
import Derived.Test.YtodpbkcdcchljaaQuoF
namespace Go.Proofs.Ytodpbkcdcchljaa
open Go.RowKit

theorem Num.nil (S : Nat → Prop) (w : World) (L : Nat) : Num S w (.slice none 0 0) 0 L := ⟨[], Sl.nil _ _ _, rfl, Nat.zero_le _⟩
theorem Can.mono {S T : Nat → Prop} {w : World} {v : Value} {N L : Nat} (h : Can S w v N L) (hs : ∀ k, S k → T k) : Can T w v N L := ⟨h.own.mono hs, h.len⟩
theorem Can.wide {S : Nat → Prop} {w : World} {v : Value} {N L K : Nat} (h : Can S w v N L) (hl : L ≤ K) : Can S w v N K := ⟨h.own, Nat.le_trans h.len hl⟩
theorem Num.wide {S : Nat → Prop} {w : World} {v : Value} {N L K : Nat} (h : Num S w v N L) (hl : L ≤ K) : Num S w v N K := by
  obtain ⟨xs, h1, h2, h3⟩ := h
  exact ⟨xs, h1, h2, Nat.le_trans h3 hl⟩

set_option maxHeartbeats 2000000 in
theorem gcd_n {S T : Nat → Prop} (w : World) (va vb : Value) (A B L : Nat) (ha : Num S w va A L) (hb : Num T w vb B L) (hl : L ≤ 1048576000) :
    Calls Try.prog 52 #[va, vb] w fun e w' => ∃ v, e = .returned v ∧ Can (fun k => w.heap.size ≤ k) w' v (Nat.gcd A B) L ∧ Fr (fun k => k < w.heap.size) w w' := by
  go_enter Try.func52, Try.ntmps52
  go_wp2_with fail
  refine (trim_n _ _ _ _ ha (by omega)).mono ?_
  rintro e w1 ⟨v1, rfl, h1, hf⟩
  have F := hf
  replace hb := hb.keep hf; clear hf ha
  go_wp2_with fail
  refine (trim_n _ _ _ _ hb (by omega)).mono ?_
  rintro e w2 ⟨v2, rfl, h2, hf⟩
  have s1 := F.size
  replace F := fr_then F hf
  replace h1 := h1.keep hf
  replace h2 : Can (fun k => w.heap.size ≤ k) w2 v2 B L := h2.mono fun k hk => by omega
  clear hf hb
  go_wp2_with fail
  go_loopg [0, 1, 5, 6, 7] B (fun N a b _ _ _ wr => ∃ M, Can (fun k => w.heap.size ≤ k) wr a M L ∧ Can (fun k => w.heap.size ≤ k) wr b N L ∧ Nat.gcd M N = Nat.gcd A B ∧ Fr (fun k => k < w.heap.size) w wr)
  case atStart => exact ⟨A, h1, h2, rfl, F⟩
  case round =>
    clear h1 h2 F
    obtain ⟨M, h1, h2, hg, F⟩ := hrel
    obtain ⟨A2, c2, hv2, _, _, _⟩ := h2.sl.slice
    subst hv2
    have HG := Lib.hid hg
    clear hg
    by_cases h0 : 0 < gk
    · have hpos := (dg_len_pos LB2).2 h0
      go_wp2_with fail
      refine (divmod_n _ _ _ _ _ _ _ h1.num h2.num h0 hl hl).mono ?_
      rintro e w3 ⟨q, r, rfl, hq, hr, hf⟩
      have s3 := F.size
      go_wp2_with fail
      go_roundg (M % gk)
      case rel => exact ⟨gk, h2.keep hf, hr.mono fun k hk => by omega, by rw [← HG.out, Nat.gcd_comm gk, ← Nat.gcd_rec, Nat.gcd_comm], fr_then F hf⟩
      case measure => exact Nat.mod_lt _ h0
    · obtain rfl : gk = 0 := by omega
      rw [dg_zero]
      have hg0 := HG.out
      rw [Nat.gcd_zero_right] at hg0
      have HG0 := Lib.hid hg0
      clear hg0 h2
      go_wp2_with fail
      go_ret
      exact ⟨_, rfl, by rw [← HG0.out]; exact h1, F⟩

theorem and1i {x : Int} (h0 : 0 ≤ x) (h1 : x < 9223372036854775808) : bits .and .i64 x 1 = x % 2 :=
  bits_mask .i64 63 (by decide) (fun n h0 h1 => by rw [IntKind.wrap_i64]; omega) 1 (by decide) x h0 (by simpa using h1)

theorem pow_step (M N k : Nat) : N * M ^ k = (if k % 2 = 1 then N * M else N) * (M * M) ^ (k / 2) := by
  have h := Nat.mod_add_div k 2
  have e : (M * M) ^ (k / 2) = M ^ (2 * (k / 2)) := by rw [Nat.pow_mul, Nat.pow_two]
  rw [e]
  rcases Nat.mod_two_eq_zero_or_one k with h2 | h2
  · rw [h2] at h ⊢
    rw [if_neg (by decide), show 2 * (k / 2) = k by omega]
  · rw [h2] at h ⊢
    rw [if_pos rfl, Nat.mul_assoc, ← Nat.pow_succ', show (2 * (k / 2)).succ = k by omega]
/-- a number that is a factor of one that is small is small itself, or the one is 0 -/
theorem fac_lt {M N P X : Nat} (h : N * M ^ P < X) (hP : 0 < P) (hN : 0 < N) : M < X := by
  rcases Nat.eq_zero_or_pos M with rfl | hM
  · exact Nat.lt_of_le_of_lt (Nat.zero_le _) h
  · have h1 : M ≤ M ^ P := Nat.le_self_pow (by omega) M
    have h2 := Nat.le_mul_of_pos_left (M ^ P) hN
    omega

set_option maxHeartbeats 4000000 in
theorem pow_n {S : Nat → Prop} (w : World) (va : Value) (A L n X : Nat) (ha : Num S w va A L) (hl : L ≤ X) (hX : X ≤ 104857600) (hn : n < 9223372036854775808) (hp : A ^ n < LB ^ X) (hX2 : 2 ≤ X) :
    Calls Try.prog 70 #[va, .int .i64 n] w fun e w' => ∃ v, e = .returned v ∧ Can (fun k => w.heap.size ≤ k) w' v (A ^ n) X ∧ Fr (fun k => k < w.heap.size) w w' := by
  have h1e : ((1 : Nat) : Int) = 1 := rfl
  go_enter Try.func70, Try.ntmps70
  go_wp2_with fail
  have p1 := of_n w 1 (by decide)
  rw [h1e] at p1
  clear h1e
  refine p1.mono ?_
  rintro e w1 ⟨v1, rfl, h1, hf⟩
  have F := hf
  have s1 := hf.size
  replace ha := ha.keep hf
  clear hf p1
  go_wp2_with fail
  refine (trim_n _ _ _ _ ha (by omega)).mono ?_
  rintro e w2 ⟨v2, rfl, h2, hf⟩
  replace F := fr_then F hf
  replace h1 := (h1.keep hf).wide hX2
  replace h2 : Can (fun k => w.heap.size ≤ k) w2 v2 A X := (h2.mono fun k hk => by omega).wide hl
  clear hf ha
  go_wp2_with fail
  go_loopw [0, 1, 5] (fun a i o wr => ∃ (M N k : Nat), (0 < N ∨ M = 0) ∧ i = .int .i64 k ∧ k ≤ n ∧ Can (fun k => w.heap.size ≤ k) wr a M X ∧ Can (fun k => w.heap.size ≤ k) wr o N X ∧ Hid (N * M ^ k = A ^ n) ∧ Fr (fun k => k < w.heap.size) w wr) (fun _ i _ _ => (intOf i).toNat)
  case atStart => exact ⟨A, 1, n, .inl (by decide), rfl, Nat.le_refl _, h2, h1, Nat.one_mul _, F⟩
  case round =>
    clear h1 h2 F
    obtain ⟨M, N, k, hNM, rfl, hk, h2, h1, hv, F⟩ := hrel
    by_cases h0 : 0 < k
    · have hst := pow_step M N k
      rw [hv.out] at hst
      have hNMlt : N * M < LB ^ X := by
        refine Nat.lt_of_le_of_lt ?_ hp
        rw [← hv.out]
        exact Nat.mul_le_mul_left N (Nat.le_self_pow (by omega) M)
      have hMM : 1 < k → M * M < LB ^ X := fun h => by
        rcases hNM with hN | rfl
        · refine Nat.lt_of_le_of_lt ?_ hp
          rw [← hv.out, ← Nat.pow_two]
          rcases Nat.eq_zero_or_pos M with rfl | hM
          · simp
          · exact Nat.le_trans (Nat.pow_le_pow_right hM h) (Nat.le_mul_of_pos_left _ hN)
        · rw [Nat.mul_zero]; exact Nat.pow_pos LBpos
      have hI3 : 0 < N * M ∨ M = 0 := by
        rcases hNM with h | h
        · rcases Nat.eq_zero_or_pos M with h' | h'
          · exact .inr h'
          · exact .inl (Nat.mul_pos h h')
        · exact .inr h
      have hI1 : 0 < N ∨ M * M = 0 := hNM.imp id fun h => by simp [h]
      have hI2 : 0 < N * M ∨ M * M = 0 := hI3.imp id fun h => by simp [h]
      rcases Nat.mod_two_eq_zero_or_one k with hpar | hpar
      · have hand : bits .and .i64 (k : Int) 1 = 0 := by rw [and1i (by omega) (by omega)]; omega
        rw [if_neg (by omega)] at hst
        by_cases h1k : 1 < k
        · have HST := Lib.hid hst.symm
          clear hst
          go_wp2_with fail
          refine (mul_n _ _ _ _ _ _ _ h2.num h2.num (by omega)).mono ?_
          rintro e w4 ⟨v4, rfl, h4, hf⟩
          have s4 := F.size
          replace F := fr_then F hf
          replace h1 := h1.keep hf
          replace h2 : Can (fun k => w.heap.size ≤ k) w4 v4 (M * M) X := ⟨h4.own.mono fun k hk => by omega, dg_len_le LB2 (hMM h1k)⟩
          clear hf h4
          go_wp2_with fail
          go_roundw
          case rel => exact ⟨M * M, N, k / 2, hI1, by go_num, by omega, h2, h1, HST.out, F⟩
          case measure => first | (simp [intOf]; done) | (simp [intOf]; omega)
        · exact absurd hpar (by omega)
      · have hand : bits .and .i64 (k : Int) 1 = 1 := by rw [and1i (by omega) (by omega)]; omega
        rw [if_pos hpar] at hst
        by_cases h1k : 1 < k
        · have HST := Lib.hid hst.symm
          clear hst
          go_wp2_with fail
          refine (mul_n _ _ _ _ _ _ _ h1.num h2.num (by omega)).mono ?_
          rintro e w3 ⟨v3, rfl, h3, hf⟩
          have s3 := F.size
          replace F := fr_then F hf
          replace h2 := h2.keep hf
          replace h1 : Can (fun k => w.heap.size ≤ k) w3 v3 (N * M) X := ⟨h3.own.mono fun k hk => by omega, dg_len_le LB2 hNMlt⟩
          clear hf h3
          go_wp2_with fail
          refine (mul_n _ _ _ _ _ _ _ h2.num h2.num (by omega)).mono ?_
          rintro e w4 ⟨v4, rfl, h4, hf⟩
          have s4 := F.size
          replace F := fr_then F hf
          replace h1 := h1.keep hf
          replace h2 : Can (fun k => w.heap.size ≤ k) w4 v4 (M * M) X := ⟨h4.own.mono fun k hk => by omega, dg_len_le LB2 (hMM h1k)⟩
          clear hf h4
          go_wp2_with fail
          go_roundw
          case rel => exact ⟨M * M, N * M, k / 2, hI2, by go_num, by omega, h2, h1, HST.out, F⟩
          case measure => first | (simp [intOf]; done) | (simp [intOf]; omega)
        · have hk2 : k / 2 = 0 := by omega
          rw [hk2, Nat.pow_zero, Nat.mul_one] at hst
          have HST := Lib.hid (show N * M * M ^ (k / 2) = A ^ n by rw [hk2, Nat.pow_zero, Nat.mul_one]; exact hst.symm)
          clear hst hk2
          go_wp2_with fail
          refine (mul_n _ _ _ _ _ _ _ h1.num h2.num (by omega)).mono ?_
          rintro e w3 ⟨v3, rfl, h3, hf⟩
          have s3 := F.size
          replace F := fr_then F hf
          replace h2 := h2.keep hf
          replace h1 : Can (fun k => w.heap.size ≤ k) w3 v3 (N * M) X := ⟨h3.own.mono fun k hk => by omega, dg_len_le LB2 hNMlt⟩
          clear hf h3
          go_wp2_with fail
          go_roundw
          case rel => exact ⟨M, N * M, k / 2, hI3, by go_num, by omega, h2, h1, HST.out, F⟩
          case measure => first | (simp [intOf]; done) | (simp [intOf]; omega)
    · obtain rfl : k = 0 := by omega
      have hv0 := hv.out
      rw [Nat.pow_zero, Nat.mul_one] at hv0
      have HV0 := Lib.hid hv0
      clear hv0 h2
      go_wp2_with fail
      go_ret
      exact ⟨_, rfl, by rw [← HV0.out]; exact h1, F⟩

end Go.Proofs.Ytodpbkcdcchljaa
