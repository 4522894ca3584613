
/- Package nat: Of, row, Mul. -/
import Derived.Test.YtodpbkcdcchljaaNatC
namespace Go.Proofs.Ytodpbkcdcchljaa
open Go.RowKit

set_option maxHeartbeats 400000 in
theorem of1_calls (w : World) (i : Nat) (hi : i < 2) (b : Nat) (n : Nat) (hn : n < 18446744073709551616) (h : Box w b 85 (.int .u64 n)) :
    Calls Try.prog 88 #[.int .i64 i, .pointer (some ⟨b, 0, none⟩)] w fun e w' => e = .returned (.int .u64 ((n / LB ^ i % LB : Nat) : Int)) ∧ w' = w := by
  have c1 := h.cell
  obtain rfl | rfl : i = 0 ∨ i = 1 := by omega
  all_goals
    go_enter Try.func88, Try.ntmps88
    go_wp2_with fail
    rw [mask32 (by omega) (by omega)]
    go_ret
    exact ⟨by simp [LB], rfl⟩

set_option maxHeartbeats 400000 in
theorem row1_calls {S : Nat → Prop} (w : World) (i up : Nat) (bu ba bm bc : Nat) (va : Value) (xs : List Nat) (m c : Nat) (hm : m < LB) (hc : c < LB) (ha : Sl Lm S w va xs)
    (h1 : Box w bu 3 (.int .i64 up)) (h2 : Box w ba 23 va) (h3 : Box w bm 62 (.int .u32 m)) (h4 : Box w bc 85 (.int .u64 c)) (hi : i < 4611686018427387904) (hu : up ≤ i) :
    Calls Try.prog 108 #[.int .i64 i, .pointer (some ⟨bu, 0, none⟩), .pointer (some ⟨ba, 0, none⟩), .pointer (some ⟨bm, 0, none⟩), .pointer (some ⟨bc, 0, none⟩)] w fun e w' =>
      e = .returned (.int .u64 (((xs.getD (i - up) 0 * m + c) % LB : Nat) : Int)) ∧ Box w' bc 85 (.int .u64 (((xs.getD (i - up) 0 * m + c) / LB : Nat) : Int)) ∧ Fr (fun k => k ≠ bc) w w' := by
  have c1 := h1.cell
  have c2 := h2.cell
  have c3 := h3.cell
  have c4 := h4.cell
  have f4 := h4.free
  have hli : limbAt xs ((i : Int) - (up : Int)) = xs.getD (i - up) 0 := by rw [← Int.natCast_sub hu]; exact limbAt_nat _ _
  have hl := limbAt_lt (Kd.nat_all ha) ((i : Int) - (up : Int))
  have hm' : m < 4294967296 := hm
  have hc' : c < 4294967296 := hc
  obtain ⟨L, hL⟩ : ∃ L, L = limbAt xs ((i : Int) - (up : Int)) := ⟨_, rfl⟩
  rw [← hL] at hl hli
  have hp : L * m ≤ 4294967295 * 4294967295 := Nat.mul_le_mul (by omega) (by omega)
  obtain ⟨x, hx⟩ : ∃ x, x = L * m + c := ⟨_, rfl⟩
  have hxl : x < 18446744073709551616 := by omega
  have hw : IntKind.u64.wrap (IntKind.u64.wrap ((L : Int) * (m : Int)) + (c : Int)) = (x : Int) := by
    have e1 : IntKind.u64.wrap ((L : Int) * (m : Int)) = ((L * m : Nat) : Int) := by rw [← Int.natCast_mul]; exact wrap_u64_lt (by omega) (by omega)
    rw [e1, ← Int.natCast_add, ← hx, wrap_u64_lt (by omega) (by omega)]
  have hk : bits .and .u64 (x : Int) 4294967295 = ((x % LB : Nat) : Int) := by rw [mask32 (by omega) (by omega)]; simp [LB]
  have hL' := hL.symm
  rw [← hli, ← hx]
  have HLI := Lib.hid hli
  have HX := Lib.hid hx
  clear hli hx hp hL
  go_enter Try.func108, Try.ntmps108
  go_wp2_with fail
  go_quiet (first | (with_reducible exact limb_quiet _ _ va xs _ ha))
  go_wp2_with fail
  go_ret
  exact ⟨rfl, by simpa [LB] using Box.set (w := w.drewN _) h4 (.int .u64 ((x : Int) / 4294967296)), ((Fr.refl _ _).drewN _).setCell (fun _ h => h rfl) _⟩

set_option maxHeartbeats 400000 in
theorem row0_calls (w : World) (i up : Nat) (bu ba bm bc : Nat) (h1 : Box w bu 3 (.int .i64 up)) (hu : i < up) :
    Calls Try.prog 108 #[.int .i64 i, .pointer (some ⟨bu, 0, none⟩), .pointer (some ⟨ba, 0, none⟩), .pointer (some ⟨bm, 0, none⟩), .pointer (some ⟨bc, 0, none⟩)] w fun e w' =>
      e = .returned (.int .u64 0) ∧ w' = w := by
  have c1 := h1.cell
  go_enter Try.func108, Try.ntmps108
  go_wp2_with fail
  go_ret
  exact ⟨rfl, rfl⟩

/-- the carries of a number times a limb -/
def rowC (xs : List Nat) (m : Nat) : Nat → Nat
  | 0 => 0
  | k + 1 => (xs.getD k 0 * m + rowC xs m k) / LB
/-- its digits, some places up -/
def rowF (xs : List Nat) (m up i : Nat) : Nat := if i < up then 0 else (xs.getD (i - up) 0 * m + rowC xs m (i - up)) % LB
theorem rowC_lt {xs : List Nat} (hx : ∀ d ∈ xs, d < LB) {m : Nat} (hm : m < LB) (k : Nat) : rowC xs m k < LB := by
  induction k with
  | zero => exact LBpos
  | succ k ih =>
    have h1 := limbAt_lt hx k
    rw [limbAt_nat] at h1
    have hm' : m < 4294967296 := hm
    have ih' : rowC xs m k < 4294967296 := ih
    have hp : xs.getD k 0 * m ≤ 4294967295 * 4294967295 := Nat.mul_le_mul (by omega) (by omega)
    exact Nat.div_lt_of_lt_mul (by show _ < 4294967296 * 4294967296; omega)
theorem row_sum0 (xs : List Nat) (m up : Nat) (n : Nat) (hn : n ≤ up) : sumTo LB (rowF xs m up) n = 0 := by
  induction n with
  | zero => rfl
  | succ n ih => rw [sumTo, ih (by omega), rowF, if_pos (by omega)]; rfl
theorem row_sum (xs : List Nat) (m up : Nat) (k : Nat) : sumTo LB (rowF xs m up) (up + k) + LB ^ (up + k) * rowC xs m k = LB ^ up * (m * ofB LB (xs.take k)) := by
  induction k with
  | zero => simp [row_sum0, rowC, ofB]
  | succ k ih =>
    have hf : rowF xs m up (up + k) = (xs.getD k 0 * m + rowC xs m k) % LB := by rw [rowF, if_neg (by omega), Nat.add_sub_cancel_left]
    have ht : ofB LB (xs.take (k + 1)) = ofB LB (xs.take k) + LB ^ k * xs.getD k 0 := by rw [← sumTo_getD, ← sumTo_getD]; rfl
    rw [← Nat.add_assoc, sumTo, hf, rowC, ht]
    have hd := Nat.mod_add_div (xs.getD k 0 * m + rowC xs m k) LB
    rw [Nat.pow_succ, Nat.add_assoc, Nat.mul_assoc, ← Nat.mul_add, hd, Nat.mul_add, Nat.mul_add, Nat.mul_add, ← ih, Nat.pow_add]
    have e1 : LB ^ up * LB ^ k * (xs.getD k 0 * m) = LB ^ up * (m * (LB ^ k * xs.getD k 0)) := by
      rw [Nat.mul_assoc, Nat.mul_comm (xs.getD k 0) m, Nat.mul_left_comm m]
    omega
theorem row_total {xs : List Nat} (hx : ∀ d ∈ xs, d < LB) {m : Nat} (hm : m < LB) (up : Nat) : sumTo LB (rowF xs m up) (xs.length + up + 1) = val xs * m * LB ^ up := by
  have h := row_sum xs m up (xs.length + 1)
  have hc : rowC xs m (xs.length + 1) = 0 := by
    have h0 := rowC_lt hx hm xs.length
    rw [rowC, List.getD_eq_getElem?_getD, List.getElem?_eq_none (by omega)]
    simp only [Option.getD_none, Nat.zero_mul, Nat.zero_add]
    exact Nat.div_eq_of_lt h0
  rw [hc, Nat.mul_zero, Nat.add_zero, List.take_of_length_le (by omega)] at h
  rw [show xs.length + up + 1 = up + (xs.length + 1) from by omega, h, Nat.mul_comm m, Nat.mul_comm (LB ^ up)]

theorem row_at (B bu ba bm bc : Nat) (va : Value) (xs : List Nat) (m up n : Nat) (hm : m < LB) (hx : ∀ d ∈ xs, d < LB) (hn : n ≤ 4611686018427387904) (hbc : bc < B) :
    At Try.prog 108 #[.pointer (some ⟨bu, 0, none⟩), .pointer (some ⟨ba, 0, none⟩), .pointer (some ⟨bm, 0, none⟩), .pointer (some ⟨bc, 0, none⟩)] n (rowF xs m up) (fun k => k = bc) B
    (fun i w => Sl Lm (fun k => k < B ∧ k ≠ bc) w va xs ∧ Box w bu 3 (.int .i64 up) ∧ Box w ba 23 va ∧ Box w bm 62 (.int .u32 m) ∧ Box w bc 85 (.int .u64 (rowC xs m (i - up))) ∧
      (bu < B ∧ bu ≠ bc) ∧ (ba < B ∧ ba ≠ bc) ∧ (bm < B ∧ bm ≠ bc) ∧ bc < B) where
  enter := enter_of Try.func108 (by decide) rfl
  keep := by
    rintro i w w' ⟨h1, h2, h3, h4, h5, h6, h7, h8, h9⟩ hf
    exact ⟨h1.fr (hf.mono fun _ _ hk => hk.1), h2.fr hf h6.1, h3.fr hf h7.1, h4.fr hf h8.1, h5.fr hf h9, h6, h7, h8, h9⟩
  call := by
    rintro i w hi ⟨h1, h2, h3, h4, h5, h6, h7, h8, h9⟩ hB
    rcases Nat.lt_or_ge i up with hlt | hge
    · refine (row0_calls w i up bu ba bm bc h2 hlt).mono ?_
      rintro e w' ⟨rfl, rfl⟩
      refine ⟨by rw [rowF, if_pos hlt]; rfl, ⟨h1, h2, h3, h4, ?_, h6, h7, h8, h9⟩, Fr.refl _ _⟩
      have e1 : i - up = 0 := by omega
      have e2 : i + 1 - up = 0 := by omega
      rw [e2]; rw [e1] at h5; exact h5
    · refine (row1_calls w i up bu ba bm bc va xs m (rowC xs m (i - up)) hm (rowC_lt hx hm _) h1 h2 h3 h4 h5 (by omega) hge).mono ?_
      rintro e w' ⟨rfl, hb, hf⟩
      refine ⟨by rw [rowF, if_neg (by omega)], ⟨h1.fr (hf.mono fun _ _ hk => hk.2), h2.fr hf h6.2, h3.fr hf h7.2, h4.fr hf h8.2, ?_, h6, h7, h8, h9⟩, hf⟩
      rw [show i + 1 - up = (i - up) + 1 from by omega, rowC]; exact hb
  low := by rintro k rfl; exact hbc
  small := by
    intro i _
    have : rowF xs m up i < 4294967296 := by
      unfold rowF
      split
      · decide
      · exact Nat.mod_lt _ LBpos
    omega

theorem Box.at2 {w : World} {t : TypeId} {v : Value} {b : Nat} {o : Obj} (hb : b = w.heap.size + 1) : Box ((w.alloc o).alloc (.cells #[v] t)) b t v := by
  subst hb; simpa using Box.new (w.alloc o) t v
theorem Box.at3 {w : World} {t : TypeId} {v : Value} {b : Nat} {o o2 : Obj} (hb : b = w.heap.size + 2) : Box (((w.alloc o).alloc o2).alloc (.cells #[v] t)) b t v := by
  subst hb; simpa using Box.new ((w.alloc o).alloc o2) t v
theorem Box.at4 {w : World} {t : TypeId} {v : Value} {b : Nat} {o o2 o3 : Obj} (hb : b = w.heap.size + 3) : Box ((((w.alloc o).alloc o2).alloc o3).alloc (.cells #[v] t)) b t v := by
  subst hb; simpa using Box.new (((w.alloc o).alloc o2).alloc o3) t v

set_option maxHeartbeats 400000 in
theorem row_calls {S : Nat → Prop} (w : World) (va : Value) (xs : List Nat) (m up : Nat) (hm : m < LB) (ha : Sl Lm S w va xs) (hxl : xs.length + up + 1 ≤ 1099511627000) :
    Calls Try.prog 99 #[va, .int .u32 m, .int .i64 up] w fun e w' => ∃ v, e = .returned v ∧ Own Lm 62 (fun k => w.heap.size ≤ k) w' v (dg LB (val xs * m * LB ^ up)) ∧ Fr (fun k => k < w.heap.size) w w' := by
  obtain ⟨A, c, rfl, _, _, hlx⟩ := ha.slice
  have hxd := Kd.nat_all ha
  have HA := Lib.hid ha
  clear ha
  go_enter Try.func99, Try.ntmps99
  go_wp2_with fail
  have hf := fun R => ((((Fr.refl R w).alloc (.cells #[.slice A xs.length c] 23)).alloc (.cells #[.int .u32 m] 62)).alloc (.cells #[.int .i64 up] 3)).alloc (.cells #[.int .u64 0] 85)
  have hsl := (HA.out.up Lm_pos (Nat.le_refl _) (hf (fun k => k < w.heap.size)))
  refine (gather_calls _ (xs.length + up + 1) (by omega) _ _ _ _ _ (row_at _ (w.heap.size + 1 + 1) w.heap.size (w.heap.size + 1) (w.heap.size + 1 + 1 + 1) (.slice A xs.length c) xs m up (xs.length + up + 1) hm hxd (by omega) (by simp)) ?_).mono ?_
  · exact ⟨hsl.mono fun k hk => ⟨by simp <;> omega, by omega⟩, (Box.at3 rfl).alloc _, ((Box.new _ _ _).alloc _).alloc _ |>.alloc _, ((Box.at2 rfl).alloc _).alloc _, by rw [Nat.zero_sub]; exact Box.at4 rfl, ⟨by simp, by omega⟩, ⟨by simp <;> omega, by omega⟩, ⟨by simp <;> omega, by omega⟩, by simp⟩
  rintro e w1 ⟨v, rfl, ho, hfr⟩
  go_wp2_with fail
  go_ret
  refine ⟨_, rfl, ?_, (hf _).comp hfr fun k hk _ => ⟨hk, by simp; omega, by omega⟩⟩
  rw [row_total hxd hm] at ho
  exact ho.mono fun k hk => by simp at hk; omega

set_option maxHeartbeats 400000 in
theorem mul_calls {S T : Nat → Prop} (w : World) (va vb : Value) (xs ys : List Nat) (ha : Sl Lm S w va xs) (hb : Sl Lm T w vb ys) (hl : xs.length + ys.length ≤ 1099511626000) :
    Calls Try.prog 82 #[va, vb] w fun e w' => ∃ v, e = .returned v ∧ Own Lm 62 (fun k => w.heap.size ≤ k) w' v (dg LB (val xs * val ys)) ∧ Fr (fun k => k < w.heap.size) w w' := by
  obtain ⟨A, c, rfl, _, _, hly⟩ := hb.slice
  have hyd := Kd.nat_all hb
  have hxd := Kd.nat_all ha
  have HB := Lib.hid hb
  have HA := Lib.hid ha
  clear ha hb
  go_enter Try.func82, Try.ntmps82
  go_wp2_with fail
  go_loopw [5, 10] (fun o i wr => ∃ (j : Nat), j ≤ ys.length ∧ i = .int .i64 j ∧ Own Lm 62 (fun k => w.heap.size ≤ k) wr o (dg LB (val xs * ofB LB (ys.take j))) ∧ Fr (fun k => k < w.heap.size) w wr) (fun _ i _ => ys.length - (intOf i).toNat)
  case atStart => exact ⟨0, Nat.zero_le _, rfl, by rw [List.take_zero, ofB, Nat.mul_zero, dg_zero]; exact Own.nil _ _ _ _, Fr.refl _ _⟩
  case round =>
    obtain ⟨j, hj, rfl, ho, hfr⟩ := hrel
    by_cases hlt : j < ys.length
    · have hsb := HB.out.up Lm_pos (Nat.le_refl _) hfr
      have hsa := HA.out.up Lm_pos (Nat.le_refl _) hfr
      obtain ⟨ad, rfl, hc, hm⟩ := Kd.nat_cell hsb hlt
      obtain ⟨y, hy⟩ : ∃ y, y = ys[j] := ⟨_, rfl⟩
      rw [← hy] at hc hm
      have htk : ofB LB (ys.take (j + 1)) = ofB LB (ys.take j) + LB ^ j * y := by
        rw [List.take_succ_eq_append_getElem hlt, ofB_snoc, List.length_take, Nat.min_eq_left (by omega), hy]
      have HY := Lib.hid htk
      clear hy htk
      have hlo : (dg LB (val xs * ofB LB (ys.take j))).length ≤ xs.length + j := by
        refine dg_len_le LB2 ?_
        rw [Nat.pow_add]
        have h1 := ofB_lt hxd
        have h2 := ofB_lt (b := LB) (l := ys.take j) (fun d hd => hyd d (List.mem_of_mem_take hd))
        rw [List.length_take, Nat.min_eq_left (by omega)] at h2
        exact Nat.mul_lt_mul_of_lt_of_lt h1 h2
      have HLO := Lib.hid hlo
      clear hlo
      go_wp2_with fail
      refine (row_calls wr va xs y j hm hsa (by omega)).mono ?_
      rintro e w2 ⟨vr, rfl, hor, hfr2⟩
      go_wp2_with fail
      have hlr : (dg LB (val xs * y * LB ^ j)).length ≤ xs.length + 1 + j := by
        refine dg_len_le LB2 ?_
        rw [Nat.pow_add, Nat.pow_succ]
        exact Nat.mul_lt_mul_of_pos_right (Nat.mul_lt_mul_of_lt_of_lt (ofB_lt hxd) hm) (Nat.pow_pos LBpos)
      have hlo := HLO.out
      refine (add_calls w2 u5 vr _ _ (ho.sl.keep' Lm_pos hfr2) hor.sl (by omega) (by omega)).mono ?_
      rintro e w3 ⟨v3, rfl, ho3, hfr3⟩
      have hs2 := hfr2.size
      have hs3 := hfr.size
      clear hlr hlo
      go_wp2_with fail
      go_roundw
      case rel =>
        refine ⟨j + 1, hlt, by go_num, ?_, (hfr.comp hfr2 fun k hk _ => ⟨hk, by omega⟩).comp hfr3 fun k hk _ => ⟨hk, by omega⟩⟩
        rw [val_dg, val_dg] at ho3
        rw [HY.out, Nat.mul_add, Nat.mul_comm (LB ^ j), ← Nat.mul_assoc]
        exact ho3.mono fun k hk => by omega
      case measure => simp [intOf]; omega
    · obtain rfl : j = ys.length := by omega
      go_wp2_with fail
      go_ret
      rw [List.take_length] at ho
      exact ⟨_, rfl, ho, hfr⟩
end Go.Proofs.Ytodpbkcdcchljaa
