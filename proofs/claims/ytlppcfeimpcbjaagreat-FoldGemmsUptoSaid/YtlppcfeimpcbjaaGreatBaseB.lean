/- The base, part B: what the elder chapters' texts prove, of the functions that this seat has. -/
import Derived.Shelf.Small.Bits
import Derived.Test.YtlppcfeimpcbjaaGreatProg
import Derived.Test.YtlppcfeimpcbjaaGreatBaseA
import Derived.WalkSpells
set_option linter.unusedSimpArgs false
set_option linter.unusedVariables false

/- The contracts of math/bits' functions off the shelf, laid at this dump (by the kit's tools; the numbers by name). -/
namespace Go.Proofs
open Go.Shelf
def Tryz.lays128_ren : Go.Shelf.Ren := ⟨fun | 128 => 150 | n => n, fun | 51 => 150 | 3 => 3 | 4 => 4 | 46 => 160 | 5 => 5 | 9 => 9 | n => n, fun | n => n⟩
theorem Tryz.lays128 : Go.Proofs.Lays.n128 Tryz.prog Tryz.lays128_ren := {
  mixed := by kernel_rfl
  f128 := Tryz.func150.trans (congrArg some (by kernel_rfl))
  t3 := Tryz.underlying3
  a3 := Tryz.isAgg3
  z3 := Tryz.sizeOf3
  v3 := Tryz.zeroValue3
  t4 := Tryz.underlying4
  a4 := Tryz.isAgg4
  z4 := Tryz.sizeOf4
  v4 := Tryz.zeroValue4
  t5 := Tryz.underlying5
  a5 := Tryz.isAgg5
  z5 := Tryz.sizeOf5
  v5 := Tryz.zeroValue5
  t9 := Tryz.underlying9
  a9 := Tryz.isAgg9
  z9 := Tryz.sizeOf9
  v9 := Tryz.zeroValue9
  t46 := Tryz.underlying160
  a46 := Tryz.isAgg160
  z46 := Tryz.sizeOf160
  v46 := Tryz.zeroValue160
  t51 := Tryz.underlying150
  a51 := Tryz.isAgg150
  z51 := Tryz.sizeOf150
  v51 := Tryz.zeroValue150 }
/-- bits.Len32: "Len32 returns the minimum number of bits required to represent x; the result is 0 for x == 0.": IT RETURNS 'Lib.bitLen x'; the world is as it was. ('h0', 'h1': x is a uint32.) (LAID: no walk: one application.) -/
theorem Tryz.bits_Len32 (x : Int) (w : World) (h0 : 0 ≤ x) (h1 : x ≤ 4294967295) :
    Calls Tryz.prog 150 #[.int .u32 x] w fun e w' => e = .returned (.int .i64 (Lib.bitLen x.toNat)) ∧ w' = w := Any.bits_Len32 Tryz.lays128 x w h0 h1
def Tryz.lays133_ren : Go.Shelf.Ren := ⟨fun | 133 => 159 | 128 => 150 | n => n, fun | 51 => 150 | 3 => 3 | 4 => 4 | 46 => 160 | 5 => 5 | 9 => 9 | n => n, fun | n => n⟩
theorem Tryz.lays133 : Go.Proofs.Lays.n133 Tryz.prog Tryz.lays133_ren := {
  mixed := by kernel_rfl
  f128 := Tryz.func150.trans (congrArg some (by kernel_rfl))
  f133 := Tryz.func159.trans (congrArg some (by kernel_rfl))
  t3 := Tryz.underlying3
  a3 := Tryz.isAgg3
  z3 := Tryz.sizeOf3
  v3 := Tryz.zeroValue3
  t4 := Tryz.underlying4
  a4 := Tryz.isAgg4
  z4 := Tryz.sizeOf4
  v4 := Tryz.zeroValue4
  t5 := Tryz.underlying5
  a5 := Tryz.isAgg5
  z5 := Tryz.sizeOf5
  v5 := Tryz.zeroValue5
  t9 := Tryz.underlying9
  a9 := Tryz.isAgg9
  z9 := Tryz.sizeOf9
  v9 := Tryz.zeroValue9
  t46 := Tryz.underlying160
  a46 := Tryz.isAgg160
  z46 := Tryz.sizeOf160
  v46 := Tryz.zeroValue160
  t51 := Tryz.underlying150
  a51 := Tryz.isAgg150
  z51 := Tryz.sizeOf150
  v51 := Tryz.zeroValue150 }
/-- bits.LeadingZeros32: "LeadingZeros32 returns the number of leading zero bits in x; the result is 32 for x == 0.": IT RETURNS '32 - Lib.bitLen x'; the world is as it was. ITS CALLEE bits.Len32 IS MET BY ITS OWN CONTRACT OFF THE SHELF (lay that first): entered in place it sends the kernel out of memory. (LAID: no walk: one application.) -/
theorem Tryz.bits_LeadingZeros32 (x : Int) (w : World) (h0 : 0 ≤ x) (h1 : x ≤ 4294967295) :
    Calls Tryz.prog 159 #[.int .u32 x] w fun e w' => e = .returned (.int .i64 (32 - (Lib.bitLen x.toNat : Int))) ∧ w' = w := Any.bits_LeadingZeros32 Tryz.lays133 x w h0 h1
end Go.Proofs


/- Package nat: Of, Uint, Trim, Bits, Bit. -/
namespace Go.Proofs.YtlppcfeimpcbjaaGreat
open Go.RowKit

theorem of_at (B b n m : Nat) (hn : n < 18446744073709551616) (hm : m ≤ 2) : At Tryz.prog 153 #[.pointer (some ⟨b, 0, none⟩)] m (fun i => n / LB ^ i % LB) (fun _ => False) B
    (fun _ w => Box w b 170 (.int .u64 n) ∧ b < B) where
  enter := enter_of Tryz.func153 (by decide) rfl
  keep := by
    rintro i w w' ⟨h1, h2⟩ hf
    exact ⟨h1.fr hf h2, h2⟩
  call := by
    rintro i w hi ⟨h1, h2⟩ hB
    refine (of1_calls w i (by omega) b n hn h1).mono ?_
    rintro e w' ⟨rfl, rfl⟩
    exact ⟨rfl, ⟨h1, h2⟩, Fr.refl _ _⟩
  low := fun _ h => h.elim
  small := by
    intro i hi
    have : n / LB ^ i % LB < 4294967296 := Nat.mod_lt _ LBpos
    omega
theorem of_sum (n : Nat) (hn : n < 18446744073709551616) : sumTo LB (fun i => n / LB ^ i % LB) 2 = n := by
  simp only [sumTo, Nat.pow_zero, Nat.one_mul, Nat.div_one, Nat.pow_one, Nat.zero_add]
  unfold LB
  omega

set_option maxHeartbeats 400000 in
theorem of_calls (w : World) (n : Nat) (hn : n < 18446744073709551616) :
    Calls Tryz.prog 135 #[.int .u64 n] w fun e w' => ∃ v, e = .returned v ∧ Own Lm 150 (fun k => w.heap.size ≤ k) w' v (dg LB n) ∧ Fr (fun k => k < w.heap.size) w w' := by
  go_enter Tryz.func135, Tryz.ntmps135
  go_wp2_with fail
  have hf := fun R => (Fr.refl R w).alloc (.cells #[.int .u64 n] 170)
  refine (gather_calls _ 2 (by omega) _ _ _ _ _ (of_at _ w.heap.size n 2 hn (by omega)) ⟨Box.new _ _ _, by simp⟩).mono ?_
  rintro e w1 ⟨v, rfl, ho, hfr⟩
  go_wp2_with fail
  go_ret
  refine ⟨_, rfl, ?_, (hf _).comp hfr fun k hk _ => ⟨hk, by simp; omega, id⟩⟩
  rw [of_sum n hn] at ho
  exact ho.mono fun k hk => by simp at hk; omega

theorem eqlNil (W : World) (a : Option Addr) (n c : Nat) : (binOp .eql 52 (.slice a n c) (.slice none 0 0)).run Tryz.prog W = .ok (.bool a.isNone) W :=
  Lib.run_eql_slice_nil W 52 150 a n c 0 0 Tryz.underlying52

set_option maxHeartbeats 400000 in
theorem clone_calls {S : Nat → Prop} (w : World) (v : Value) (xs : List Nat) (h : Sl Lm S w v xs) (hl : xs.length ≤ 1099511627000) :
    Calls Tryz.prog 157 #[v] w fun e w' => ∃ v, e = .returned v ∧ Own Lm 150 (fun k => w.heap.size ≤ k) w' v xs ∧ Fr (fun k => k < w.heap.size) w w' := by
  obtain ⟨A, c, rfl, hcap, _, hlx⟩ := h.slice
  have he := eqlNil
  cases A with
  | none =>
    obtain rfl : xs = [] := by
      obtain ⟨A', c', hv, _, _, _, h4⟩ := h
      cases xs with
      | nil => rfl
      | cons x xs => cases hv; obtain ⟨ad, h, _⟩ := h4 (by simp); cases h
    go_enter Tryz.func157, Tryz.ntmps157
    go_wp2_with fail
    go_ret
    exact ⟨_, rfl, Own.nil _ _ _ _, Fr.refl _ _⟩
  | some ad =>
    have hf := fun R => (Fr.refl R w).alloc (.cells #[] 150)
    have hsl := h.up Lm_pos (Nat.le_refl _) (hf _)
    have H := Lib.hid hsl
    clear h hsl
    go_enter Tryz.func157, Tryz.ntmps157
    have hn1 : ∀ k, (w.alloc (.cells #[] 150)).heap.size ≤ k → w.heap.size ≤ k := fun k hk => by simp at hk; omega
    have hl1 : (([] : List Nat).length + xs.length) * 4 ≤ 140737488355328 := by simp; omega
    have hl2 : ([] : List Nat).length + xs.length ≤ 9223372036854775807 := by simp; omega
    have HN := Lib.hid (And.intro hn1 (And.intro hl1 hl2))
    clear hn1 hl1 hl2
    go_wp2_with (at_builtin; refine wpList_push (v := .slice (some ⟨w.heap.size, 0, none⟩) 0 0) lmT rfl rfl rfl rfl (Own.empty Lm 150 (S := fun k => w.heap.size ≤ k) w (Nat.le_refl _)) H.out (fun y cs h => Kd.nat_any (S := fun k => k < w.heap.size) h) HN.out.1 HN.out.2.1 HN.out.2.2 ?_; intro v' w1 hown hfr hat)
    go_ret
    exact ⟨_, rfl, hown, (hf _).comp hfr fun k hk _ => ⟨hk, by simp [Value.ownBlock]; omega⟩⟩

set_option maxHeartbeats 400000 in
theorem trim_calls {S : Nat → Prop} (w : World) (v : Value) (xs : List Nat) (h : Sl Lm S w v xs) (hl : xs.length ≤ 1099511627000) :
    Calls Tryz.prog 151 #[v] w fun e w' => ∃ v, e = .returned v ∧ Own Lm 150 (fun k => w.heap.size ≤ k) w' v (dg LB (val xs)) ∧ Fr (fun k => k < w.heap.size) w w' := by
  obtain ⟨A, c, rfl, hcap, hmax, hlx⟩ := h.slice
  have hd := Kd.nat_all h
  have hdl : (dg LB (val xs)).length ≤ xs.length := dg_len_le LB2 (ofB_lt hd)
  have hle : ((dg LB (val xs)).length : Int) ≤ (c : Int) := by omega
  have htk := h.take hdl
  rw [← dg_top' LB2 hd] at htk
  have htk : Sl Lm S w (.slice A (dg LB (val xs)).length c) (dg LB (val xs)) := htk
  have H := Lib.hid htk
  clear htk
  go_enter Tryz.func151, Tryz.ntmps151
  go_wp2_with (go_at_call 149; refine (top_calls _ _ _ h).mono ?_; rintro e w' ⟨rfl, rfl⟩)
  refine (clone_calls _ _ _ H.out (by omega)).mono ?_
  rintro e w1 ⟨v, rfl, ho, hfr⟩
  go_wp2_with fail
  go_ret
  exact ⟨_, rfl, ho, hfr⟩

theorem bitLen_blen (x : Nat) (h : x < 4294967296) : Lib.bitLen x = blen x := by
  induction x using Nat.strongRecOn with
  | _ x ih =>
    rcases Nat.eq_zero_or_pos x with rfl | hp
    · rw [blen_zero]; rfl
    · rw [Lib.bitLen_half x (by omega) (by omega), ih (x / 2) (by omega) (by omega), blen_half hp]

theorem len32_calls (w : World) (x : Nat) (hx : x < LB) :
    Calls Tryz.prog 150 #[.int .u32 x] w fun e w' => e = .returned (.int .i64 (blen x : Int)) ∧ w' = w := by
  have hx' : x < 4294967296 := hx
  rw [← bitLen_blen x hx']
  simpa using Tryz.bits_Len32 (x : Int) w (by omega) (by omega)

theorem LB_pow (k : Nat) : LB ^ k = 2 ^ (32 * k) := by rw [Nat.pow_mul]; rfl
/-- The top limb tells the bits. -/
theorem blen_limbs {n k x : Nat} (hk : (dg LB n).length = k + 1) (hx : (dg LB n)[k]? = some x) : x < LB ∧ blen n = 32 * k + blen x := by
  have hlt := dg_lt LB2 n x (List.mem_of_getElem? hx)
  refine ⟨hlt, ?_⟩
  have hpos : 0 < x := by
    have := dg_last LB2 n x (by rw [List.getLast?_eq_getElem?, hk]; exact hx)
    omega
  have hs : dg LB n = (dg LB n).take k ++ [x] := by
    have h := List.take_append_drop k (dg LB n)
    have hd : (dg LB n).drop k = [x] := by
      rw [List.drop_eq_getElem_cons (by omega), List.drop_of_length_le (by omega)]
      rw [List.getElem?_eq_getElem (by omega)] at hx
      simpa using hx
    rw [hd] at h; exact h.symm
  have hv : n = ofB LB ((dg LB n).take k) + LB ^ k * x := by
    conv => lhs; rw [← ofB_dg LB2 n, hs, ofB_snoc, List.length_take, hk, Nat.min_eq_left (by omega)]
  have hlo : ofB LB ((dg LB n).take k) < LB ^ k := by
    have := ofB_lt (b := LB) (l := (dg LB n).take k) (fun d hd => dg_lt LB2 n d (List.mem_of_mem_take hd))
    rwa [List.length_take, hk, Nat.min_eq_left (by omega)] at this
  generalize ofB LB ((dg LB n).take k) = lo at hv hlo
  rw [hv, LB_pow]
  rw [LB_pow] at hlo
  exact blen_top hlo hpos

set_option maxHeartbeats 400000 in
theorem bits_calls {S : Nat → Prop} (w : World) (v : Value) (xs : List Nat) (h : Sl Lm S w v xs) (hl : xs.length ≤ 1099511627000) :
    Calls Tryz.prog 131 #[v] w fun e w' => e = .returned (.int .i64 (blen (val xs) : Int)) ∧ w' = w := by
  obtain ⟨A, c, rfl, hcap, hmax, hlx⟩ := h.slice
  have hd := Kd.nat_all h
  have hdl : (dg LB (val xs)).length ≤ xs.length := dg_len_le LB2 (ofB_lt hd)
  have H := Lib.hid h
  clear h
  by_cases h0 : (dg LB (val xs)).length = 0
  · have hb : (((dg LB (val xs)).length : Int) == 0) = true := by simp [h0]
    have HZ := Lib.hid h0
    clear h0
    go_enter Tryz.func131, Tryz.ntmps131
    go_wp2_with (go_at_call 149; refine (top_calls _ _ _ H.out).mono ?_; rintro e w' ⟨rfl, rfl⟩)
    go_ret
    have : val xs = 0 := (dg_eq_nil LB2).1 (List.eq_nil_of_length_eq_zero HZ.out)
    exact ⟨by rw [this, blen_zero]; rfl, rfl⟩
  · have hb : (((dg LB (val xs)).length : Int) == 0) = false := beq_eq_false_iff_ne.2 (by omega)
    obtain ⟨n, hn⟩ : ∃ n, (dg LB (val xs)).length = n + 1 := ⟨(dg LB (val xs)).length - 1, by omega⟩
    obtain ⟨ad, rfl, hc, hm⟩ := Kd.nat_cell H.out (i := n) (by omega)
    obtain ⟨x, hx⟩ : ∃ x, x = xs[n]'(by omega) := ⟨_, rfl⟩
    rw [← hx] at hc hm
    have htop := blen_limbs hn (x := x) (by
      rw [dg_top' LB2 hd, List.getElem?_take, if_pos (by show n < (dg LB (val xs)).length; omega), hx, List.getElem?_eq_getElem])
    have hbl : blen x ≤ 32 := dg_len_le (by omega) hm
    have HT := Lib.hid htop
    clear hx htop h0
    go_enter Tryz.func131, Tryz.ntmps131
    go_wp2_with (first
      | (go_at_call 149; refine (top_calls _ _ _ H.out).mono ?_; rintro e w' ⟨rfl, rfl⟩)
      | (go_at_call 150; refine (len32_calls _ x HT.out.1).mono ?_; rintro e w' ⟨rfl, rfl⟩))
    go_ret
    exact ⟨by rw [HT.out.2, Int.natCast_add, Int.natCast_mul]; rfl, rfl⟩

theorem and1 {x : Int} (h0 : 0 ≤ x) (h1 : x < 18446744073709551616) : bits .and .u64 x 1 = x % 2 :=
  bits_mask .u64 64 (by decide) wraps_u64 1 (by decide) x h0 (by simpa using h1)
theorem limb_bit {xs : List Nat} (hd : ∀ d ∈ xs, d < LB) (i : Nat) : xs.getD (i / 32) 0 / 2 ^ (i % 32) % 2 = val xs / 2 ^ i % 2 := by
  rw [ofB_get LBpos hd, LB_pow]
  have e : 2 ^ i = 2 ^ (32 * (i / 32)) * 2 ^ (i % 32) := by rw [← Nat.pow_add, Nat.div_add_mod]
  rw [e, ← Nat.div_div_eq_div_mul]
  generalize ofB LB xs / 2 ^ (32 * (i / 32)) = y
  have hm : i % 32 < 32 := Nat.mod_lt _ (by omega)
  obtain ⟨k, hk⟩ : ∃ k, 32 = i % 32 + (k + 1) := ⟨32 - i % 32 - 1, by omega⟩
  have hL : LB = 2 ^ (i % 32) * 2 ^ (k + 1) := by rw [← Nat.pow_add, ← hk]; rfl
  rw [hL, Nat.mod_mul_right_div_self, Nat.pow_succ, Nat.mod_mul_left_mod]

/-- is a bit there? -/
def bitAt (n : Nat) (i : Int) : Bool := decide (0 ≤ i ∧ n / 2 ^ i.toNat % 2 = 1)

end Go.Proofs.YtlppcfeimpcbjaaGreat
