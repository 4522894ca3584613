
/- Package nat: Sub, Shl, Shr. -/
import Derived.Test.YtodpbkcdcchljaaNatF
namespace Go.Proofs.Ytodpbkcdcchljaa
open Go.RowKit

/-- what is borrowed -/
def subL (xs ys : List Nat) : Nat → Nat
  | 0 => 0
  | i + 1 => if xs.getD i 0 < ys.getD i 0 + subL xs ys i then 1 else 0
def subF (xs ys : List Nat) (i : Nat) : Nat :=
  if xs.getD i 0 < ys.getD i 0 + subL xs ys i then xs.getD i 0 + LB - (ys.getD i 0 + subL xs ys i) else xs.getD i 0 - (ys.getD i 0 + subL xs ys i)
theorem subL_le (xs ys : List Nat) (i : Nat) : subL xs ys i ≤ 1 := by
  cases i with
  | zero => simp [subL]
  | succ i => rw [subL]; split <;> omega
theorem subF_lt {xs ys : List Nat} (hx : ∀ d ∈ xs, d < LB) (hy : ∀ d ∈ ys, d < LB) (i : Nat) : subF xs ys i < LB := by
  have h1 := getD_lt hx i
  have h2 := getD_lt hy i
  have h3 := subL_le xs ys i
  unfold subF
  split <;> omega
theorem sub_sum {xs ys : List Nat} (hx : ∀ d ∈ xs, d < LB) (hy : ∀ d ∈ ys, d < LB) (n : Nat) :
    sumTo LB (subF xs ys) n + sumTo LB (fun i => ys.getD i 0) n = sumTo LB (fun i => xs.getD i 0) n + LB ^ n * subL xs ys n := by
  induction n with
  | zero => simp [sumTo, subL]
  | succ n ih =>
    have h1 := getD_lt hx n
    have h2 := getD_lt hy n
    have h3 := subL_le xs ys n
    have key : subF xs ys n + ys.getD n 0 + subL xs ys n = xs.getD n 0 + LB * subL xs ys (n + 1) := by
      rw [subF, subL]
      split <;> omega
    have key2 := congrArg (fun t => LB ^ n * t) key
    simp only [Nat.mul_add] at key2
    rw [← Nat.mul_assoc, ← Nat.pow_succ] at key2
    simp only [sumTo]
    rw [show n.succ = n + 1 from rfl] at key2
    omega
theorem sub_total {xs ys : List Nat} (hx : ∀ d ∈ xs, d < LB) (hy : ∀ d ∈ ys, d < LB) (hle : val ys ≤ val xs) : sumTo LB (subF xs ys) xs.length = val xs - val ys := by
  have h := sub_sum hx hy xs.length
  have h1 := sumTo_lt_pow (b := LB) (f := subF xs ys) (n := xs.length) fun i _ => subF_lt hx hy i
  have h2 : val xs < LB ^ xs.length := ofB_lt hx
  have hyv : sumTo LB (fun i => ys.getD i 0) xs.length = val ys := by
    rw [sumTo_getD]
    have hs := List.take_append_drop xs.length ys
    rcases Nat.lt_or_ge xs.length ys.length with hl | hl
    · have hv : val ys = ofB LB (ys.take xs.length) + LB ^ xs.length * ofB LB (ys.drop xs.length) := by
        conv => lhs; rw [← hs]
        rw [val, ofB_append, List.length_take, Nat.min_eq_left (by omega)]
      have : ofB LB (ys.drop xs.length) = 0 := by
        rcases Nat.eq_zero_or_pos (ofB LB (ys.drop xs.length)) with h0 | hp
        · exact h0
        · have := Nat.le_mul_of_pos_right (LB ^ xs.length) hp; omega
      rw [hv, this]; simp
    · rw [List.take_of_length_le hl]
  rw [hyv, sumTo_all _ _ _ (Nat.le_refl _)] at h
  have h3 := subL_le xs ys xs.length
  obtain h0 | h0 : subL xs ys xs.length = 0 ∨ subL xs ys xs.length = 1 := by omega
  · rw [h0] at h; show _ = ofB LB xs - _; omega
  · rw [h0] at h
    have h4 : val ys ≤ ofB LB xs := hle
    omega

set_option maxHeartbeats 400000 in
theorem sub1_calls {S T : Nat → Prop} (w : World) (i : Nat) (ba bb bl : Nat) (va vb : Value) (xs ys : List Nat) (ha : Sl Lm S w va xs) (hb : Sl Lm T w vb ys)
    (h1 : Box w ba 23 va) (h2 : Box w bb 23 vb) (h3 : Box w bl 85 (.int .u64 (subL xs ys i))) :
    Calls Try.prog 101 #[.int .i64 i, .pointer (some ⟨ba, 0, none⟩), .pointer (some ⟨bb, 0, none⟩), .pointer (some ⟨bl, 0, none⟩)] w fun e w' => e = .returned (.int .u64 (subF xs ys i : Int)) ∧
      Box w' bl 85 (.int .u64 (subL xs ys (i + 1))) ∧ Fr (fun k => k ≠ bl) w w' := by
  have c1 := h1.cell
  have c2 := h2.cell
  have c3 := h3.cell
  have f3 := h3.free
  have l1 := getD_lt (Kd.nat_all ha) i
  have l2 := getD_lt (Kd.nat_all hb) i
  have l3 := subL_le xs ys i
  have p1 := fun n => limb_quiet w n va xs i ha
  have p2 := fun n => limb_quiet w n vb ys i hb
  simp only [limbAt_nat] at p1 p2
  have hF : subF xs ys i = if xs.getD i 0 < ys.getD i 0 + subL xs ys i then xs.getD i 0 + LB - (ys.getD i 0 + subL xs ys i) else xs.getD i 0 - (ys.getD i 0 + subL xs ys i) := rfl
  have hL : subL xs ys (i + 1) = if xs.getD i 0 < ys.getD i 0 + subL xs ys i then 1 else 0 := rfl
  generalize xs.getD i 0 = X at p1 l1 hF hL
  generalize ys.getD i 0 = Y at p2 l2 hF hL
  generalize subL xs ys i = L at c3 l3 hF hL
  have l1' : X < 4294967296 := l1
  have l2' : Y < 4294967296 := l2
  have hw : IntKind.u64.wrap ((Y : Int) + (L : Int)) = (Y : Int) + (L : Int) := wrap_u64_lt (by omega) (by omega)
  have hset : ∀ (m : Nat) (v u : Value), Box (((w.drewN m).setCell ⟨bl, 0, none⟩ v).setCell ⟨bl, 0, none⟩ u) bl 85 u := fun m v u => (Box.set (w := (w.drewN m)) h3 v).set u
  have hset1 : ∀ (m : Nat) (v : Value), Box ((w.drewN m).setCell ⟨bl, 0, none⟩ v) bl 85 v := fun m v => Box.set (w := (w.drewN m)) h3 v
  have hfr1 : ∀ (m : Nat) (v : Value), Fr (fun k => k ≠ bl) w ((w.drewN m).setCell ⟨bl, 0, none⟩ v) := fun m v => ((Fr.refl _ _).drewN m).setBox (fun _ h => h rfl) v
  have P1 := Lib.hid p1
  have P2 := Lib.hid p2
  have HF := Lib.hid hF
  have HL := Lib.hid hL
  clear p1 p2 hF hL
  by_cases hlt : X < Y + L
  · go_enter Try.func101, Try.ntmps101
    go_wp2_with fail
    go_quiet (first | (with_reducible exact P1.out _) | (with_reducible exact P2.out _))
    go_wp2_with fail
    go_ret
    have e1 : ((X : Int) + 4294967296 - ((Y : Int) + (L : Int))) = ((subF xs ys i : Nat) : Int) := by rw [HF.out, if_pos hlt]; unfold LB; omega
    rw [← e1, HL.out, if_pos hlt]
    exact ⟨rfl, hset _ _ _, (hfr1 _ _).setBox (fun _ h => h rfl) _⟩
  · go_enter Try.func101, Try.ntmps101
    go_wp2_with fail
    go_quiet (first | (with_reducible exact P1.out _) | (with_reducible exact P2.out _))
    go_wp2_with fail
    go_ret
    have e1 : ((X : Int) - ((Y : Int) + (L : Int))) = ((subF xs ys i : Nat) : Int) := by rw [HF.out, if_neg hlt]; omega
    rw [← e1, HL.out, if_neg hlt]
    exact ⟨rfl, hset1 _ _, hfr1 _ _⟩

theorem sub_at (B ba bb bl : Nat) (va vb : Value) (xs ys : List Nat) (n : Nat) (hx : ∀ d ∈ xs, d < LB) (hy : ∀ d ∈ ys, d < LB) (hbl : bl < B) :
    At Try.prog 101 #[.pointer (some ⟨ba, 0, none⟩), .pointer (some ⟨bb, 0, none⟩), .pointer (some ⟨bl, 0, none⟩)] n (subF xs ys) (fun k => k = bl) B
    (fun i w => (Sl Lm (fun k => k < B ∧ k ≠ bl) w va xs ∧ Sl Lm (fun k => k < B ∧ k ≠ bl) w vb ys) ∧ (Box w ba 23 va ∧ Box w bb 23 vb) ∧ Box w bl 85 (.int .u64 (subL xs ys i)) ∧ (ba < B ∧ ba ≠ bl) ∧ (bb < B ∧ bb ≠ bl)) where
  enter := enter_of Try.func101 (by decide) rfl
  keep := by
    rintro i w w' ⟨⟨h1, h2⟩, ⟨h3, h4⟩, h5, h6, h7⟩ hf
    exact ⟨⟨h1.fr (hf.mono fun _ _ hk => hk.1), h2.fr (hf.mono fun _ _ hk => hk.1)⟩, ⟨h3.fr hf h6.1, h4.fr hf h7.1⟩, h5.fr hf hbl, h6, h7⟩
  call := by
    rintro i w hi ⟨⟨h1, h2⟩, ⟨h3, h4⟩, h5, h6, h7⟩ hB
    refine (sub1_calls w i ba bb bl va vb xs ys h1 h2 h3 h4 h5).mono ?_
    rintro e w' ⟨rfl, hb, hf⟩
    exact ⟨rfl, ⟨⟨h1.fr (hf.mono fun _ _ hk => hk.2), h2.fr (hf.mono fun _ _ hk => hk.2)⟩, ⟨h3.fr hf h6.2, h4.fr hf h7.2⟩, hb, h6, h7⟩, hf⟩
  low := by rintro k rfl; exact hbl
  small := by
    intro i _
    have : subF xs ys i < 4294967296 := subF_lt hx hy i
    omega

set_option maxHeartbeats 400000 in
theorem sub_calls {S T : Nat → Prop} (w : World) (va vb : Value) (xs ys : List Nat) (ha : Sl Lm S w va xs) (hb : Sl Lm T w vb ys) (hxl : xs.length ≤ 1099511627000) :
    Calls Try.prog 85 #[va, vb] w fun e w' => Fr (fun k => k < w.heap.size) w w' ∧
      ((val xs < val ys ∧ e = .returned (.tuple #[.slice none 0 0, .int .i64 20])) ∨
       (val ys ≤ val xs ∧ ∃ v, e = .returned (.tuple #[v, .int .i64 0]) ∧ Own Lm 62 (fun k => w.heap.size ≤ k) w' v (dg LB (val xs - val ys)))) := by
  obtain ⟨A, c, rfl, _, _, hlx⟩ := ha.slice
  obtain ⟨A', c', rfl, _, _, hly⟩ := hb.slice
  have hxd := Kd.nat_all ha
  have hyd := Kd.nat_all hb
  have hf := fun R => ((Fr.refl R w).alloc (.cells #[.slice A xs.length c] 23)).alloc (.cells #[.slice A' ys.length c'] 23)
  have b1 := (Box.new w 23 (.slice A xs.length c)).alloc (.cells #[.slice A' ys.length c'] 23)
  have b2 : Box ((w.alloc (.cells #[.slice A xs.length c] 23)).alloc (.cells #[.slice A' ys.length c'] 23)) (w.heap.size + 1) 23 (.slice A' ys.length c') := Box.at2 rfl
  have HA := Lib.hid (ha.up Lm_pos (Nat.le_refl _) (hf _))
  have HB := Lib.hid (hb.up Lm_pos (Nat.le_refl _) (hf _))
  clear ha hb
  by_cases hlt : val xs < val ys
  · have hc : cmpN (val xs) (val ys) = -1 := by unfold cmpN; rw [if_pos hlt]
    go_enter Try.func85, Try.ntmps85
    go_wp2_with fail
    refine (cmp_calls _ _ _ xs ys HA.out HB.out).mono ?_
    rintro e w1 ⟨rfl, hfr⟩
    rw [hc]
    go_wp2_with fail
    go_ret2
    exact ⟨(hf _).comp hfr fun k hk _ => ⟨hk, by simp; omega⟩, .inl ⟨hlt, rfl⟩⟩
  · have hc : 0 ≤ cmpN (val xs) (val ys) := by unfold cmpN; rw [if_neg hlt]; split <;> omega
    generalize hcc : cmpN (val xs) (val ys) = cc at hc
    have HC := Lib.hid hcc
    clear hcc
    go_enter Try.func85, Try.ntmps85
    go_wp2_with fail
    refine (cmp_calls _ _ _ xs ys HA.out HB.out).mono ?_
    rw [HC.out]
    rintro e w1 ⟨rfl, hfr⟩
    have hsz := hfr.size
    simp only [World.size_alloc] at hfr hsz
    have b1' := b1.fr hfr (by omega)
    have b2' := b2.fr hfr (by omega)
    have ca := b1'.cell
    have cb := b2'.cell
    have hz1 : w.heap.size < w1.heap.size := by omega
    have hz2 : w.heap.size + 1 < w1.heap.size := by omega
    go_wp2_with fail
    have hg := fun R => (Fr.refl R w1).alloc (.cells #[.int .u64 0] 85)
    refine (gather_calls _ xs.length (by omega) _ _ _ _ _ (sub_at _ w.heap.size (w.heap.size + 1) w1.heap.size (.slice A xs.length c) (.slice A' ys.length c') xs ys _ hxd hyd ?hbl) ?_).mono ?_
    case hbl => rw [World.size_alloc]; omega
    · exact ⟨⟨((HA.out.fr (hfr.mono fun k _ hk => by omega)).fr (hg _)).mono fun k hk => ⟨by simp; omega, by omega⟩, ((HB.out.fr (hfr.mono fun k _ hk => by omega)).fr (hg _)).mono fun k hk => ⟨by simp; omega, by omega⟩⟩, ⟨b1'.alloc _, b2'.alloc _⟩, Box.new _ _ _, ⟨by simp; omega, by omega⟩, ⟨by simp; omega, by omega⟩⟩
    rintro e w2 ⟨v, rfl, ho, hfr2⟩
    go_wp2_with fail
    go_ret2
    refine ⟨((hf _).comp hfr fun k hk _ => ⟨hk, by omega⟩).comp ((hg _).trans hfr2) fun k hk _ => ⟨hk, by first | omega | (simp <;> omega), by omega⟩, .inr ⟨by omega, _, rfl, ?_⟩⟩
    rw [sub_total hxd hyd (by omega)] at ho
    exact ho.mono fun k hk => by simp at hk; omega

/-! Shifts. -/
theorem rowC_shift {xs : List Nat} (s : Nat) (j : Nat) : rowC xs (2 ^ s) (j + 1) = (xs.getD j 0 * 2 ^ s + rowC xs (2 ^ s) j) / LB := rfl
theorem two_split {s : Nat} (hs : s < 32) : LB = 2 ^ s * 2 ^ (32 - s) := by rw [← Nat.pow_add, Nat.add_sub_cancel' (by omega)]; rfl
theorem rowC_pow {xs : List Nat} (hx : ∀ d ∈ xs, d < LB) {s : Nat} (hs : s < 32) (j : Nat) : rowC xs (2 ^ s) (j + 1) = xs.getD j 0 / 2 ^ (32 - s) ∧ rowC xs (2 ^ s) j < 2 ^ s := by
  have hp : 0 < 2 ^ s := Nat.two_pow_pos s
  have step : ∀ j, rowC xs (2 ^ s) j < 2 ^ s → rowC xs (2 ^ s) (j + 1) = xs.getD j 0 / 2 ^ (32 - s) := by
    intro j h
    rw [rowC_shift, two_split hs, ← Nat.div_div_eq_div_mul, Nat.mul_comm, Nat.add_comm, Nat.add_mul_div_left _ _ hp, Nat.div_eq_of_lt h, Nat.zero_add]
  have lt : ∀ j, rowC xs (2 ^ s) j < 2 ^ s := by
    intro j
    induction j with
    | zero => exact hp
    | succ j ih =>
      rw [step j ih]
      refine Nat.div_lt_of_lt_mul ?_
      have := getD_lt hx j
      rw [two_split hs, Nat.mul_comm] at this
      exact this
  exact ⟨step j (lt j), lt j⟩
/-- The word that the code reckons is the digit. -/
theorem shl_word {a b s : Nat} (hs : s < 32) : (a * 4294967296 + b) * 2 ^ s % 18446744073709551616 / 4294967296 = (a * 2 ^ s + b / 2 ^ (32 - s)) % 4294967296 := by
  have hL : 4294967296 = 2 ^ s * 2 ^ (32 - s) := two_split hs
  have e1 : (18446744073709551616 : Nat) = 4294967296 * 4294967296 := rfl
  rw [e1, Nat.mod_mul_right_div_self]
  congr 1
  rw [Nat.add_mul, Nat.mul_right_comm, Nat.add_comm, Nat.add_mul_div_right _ _ (by omega), Nat.add_comm]
  congr 1
  conv => lhs; rw [hL]
  rw [← Nat.div_div_eq_div_mul, Nat.mul_div_cancel _ (Nat.two_pow_pos s)]

theorem shl_digit {xs : List Nat} (hx : ∀ d ∈ xs, d < LB) {s : Nat} (hs : s < 32) (j : Nat) :
    (xs.getD j 0 * 4294967296 + limbAt xs ((j : Int) - 1)) * 2 ^ s % 18446744073709551616 / 4294967296 = (xs.getD j 0 * 2 ^ s + rowC xs (2 ^ s) j) % LB := by
  rw [shl_word hs]
  cases j with
  | zero => simp [limbAt, rowC, LB]
  | succ j =>
    rw [(rowC_pow hx hs j).1, show (((j + 1 : Nat) : Int) - 1) = (j : Int) from by omega, limbAt_nat]
    rfl

set_option maxHeartbeats 400000 in
theorem shl1_calls {S : Nat → Prop} (w : World) (i n : Nat) (bn ba : Nat) (va : Value) (xs : List Nat) (ha : Sl Lm S w va xs) (h1 : Box w bn 3 (.int .i64 n)) (h2 : Box w ba 23 va) (hi : i < 4611686018427387904) (hn : n < 4611686018427387904) :
    Calls Try.prog 104 #[.int .i64 i, .pointer (some ⟨bn, 0, none⟩), .pointer (some ⟨ba, 0, none⟩)] w fun e w' => e = .returned (.int .u64 ((rowF xs (2 ^ (n % 32)) (n / 32) i : Nat) : Int)) ∧ ∃ m, w' = w.drewN m := by
  have c1 := h1.cell
  have c2 := h2.cell
  have hxd := Kd.nat_all ha
  by_cases hlt : i < n / 32
  · have hlt' : (i : Int) - (n : Int) / 32 < 0 := by omega
    go_enter Try.func104, Try.ntmps104
    go_wp2_with fail
    go_ret
    exact ⟨by rw [rowF, if_pos hlt]; rfl, 0, rfl⟩
  · obtain ⟨j, hj⟩ : ∃ j, j = i - n / 32 := ⟨_, rfl⟩
    have hsub : (i : Int) - (n : Int) / 32 = (j : Int) := by omega
    have hs : n % 32 < 32 := Nat.mod_lt _ (by omega)
    have p1 := fun m => limb_quiet w m va xs j ha
    have p2 := fun m => limb_quiet w m va xs ((j : Int) - 1) ha
    have hd := shl_digit hxd hs j
    have l1 := getD_lt hxd j
    have l2 := limbAt_lt hxd ((j : Int) - 1)
    have hrow : rowF xs (2 ^ (n % 32)) (n / 32) i = (xs.getD j 0 * 2 ^ (n % 32) + rowC xs (2 ^ (n % 32)) j) % LB := by rw [rowF, if_neg hlt, ← hj]
    simp only [limbAt_nat] at p1
    rw [← hd] at hrow
    clear hd
    generalize xs.getD j 0 = X at p1 l1 hrow
    generalize limbAt xs ((j : Int) - 1) = Y at p2 l2 hrow
    have l1' : X < 4294967296 := l1
    have P1 := Lib.hid p1
    have P2 := Lib.hid p2
    have HR := Lib.hid hrow
    have HJ := Lib.hid hj
    clear p1 p2 hrow hj
    go_enter Try.func104, Try.ntmps104
    go_wp2_with fail
    go_quiet (first | (with_reducible exact P1.out _) | (with_reducible exact P2.out _))
    go_wp2_with fail
    go_ret
    refine ⟨?_, _, rfl⟩
    have e1 := join32 (x := (X : Int)) (y := (Y : Int)) (by omega) (by omega) (by omega) (by omega)
    have e2 : IntKind.u64.wrap (((X : Int) * 4294967296 + (Y : Int)) * 2 ^ (n % 32)) / 4294967296 = ((rowF xs (2 ^ (n % 32)) (n / 32) i : Nat) : Int) := by
      rw [HR.out, IntKind.wrap_u64]
      simp
    have hlt4 : rowF xs (2 ^ (n % 32)) (n / 32) i < 4294967296 := by
      unfold rowF
      split
      · omega
      · exact Nat.mod_lt _ LBpos
    show Ending.returned (.int .u64 (bits .and .u64 (IntKind.u64.wrap (bits .or .u64 ((X : Int) * 4294967296) (Y : Int) * 2 ^ (n % 32)) / 4294967296) 4294967295)) = _
    rw [e1, e2, mask32 (by omega) (by omega), Int.emod_eq_of_lt (by omega) (by omega)]

theorem shl_at (B bn ba : Nat) (va : Value) (xs : List Nat) (n m : Nat) (hn : n < 4611686018427387904) (hm : m < 4611686018427387904) :
    At Try.prog 104 #[.pointer (some ⟨bn, 0, none⟩), .pointer (some ⟨ba, 0, none⟩)] m (rowF xs (2 ^ (n % 32)) (n / 32)) (fun _ => False) B
    (fun _ w => Sl Lm (fun k => k < B) w va xs ∧ (Box w bn 3 (.int .i64 n) ∧ Box w ba 23 va) ∧ bn < B ∧ ba < B) where
  enter := enter_of Try.func104 (by decide) rfl
  keep := by
    rintro i w w' ⟨h1, ⟨h3, h4⟩, h5, h6⟩ hf
    exact ⟨h1.fr hf, ⟨h3.fr hf h5, h4.fr hf h6⟩, h5, h6⟩
  call := by
    rintro i w hi ⟨h1, ⟨h3, h4⟩, h5, h6⟩ hB
    refine (shl1_calls w i n bn ba va xs h1 h3 h4 (by omega) hn).mono ?_
    rintro e w' ⟨rfl, m, rfl⟩
    have hf : ∀ S, Fr S w (w.drewN m) := fun S => (Fr.refl S w).drewN m
    exact ⟨rfl, ⟨h1.fr (hf _), ⟨h3.fr (hf (fun _ => True)) trivial, h4.fr (hf (fun _ => True)) trivial⟩, h5, h6⟩, hf _⟩
  low := fun _ h => h.elim
  small := by
    intro i _
    have : rowF xs (2 ^ (n % 32)) (n / 32) i < 4294967296 := by
      unfold rowF
      split
      · omega
      · exact Nat.mod_lt _ LBpos
    omega

set_option maxHeartbeats 400000 in
theorem shl_calls {S : Nat → Prop} (w : World) (va : Value) (xs : List Nat) (n : Int) (ha : Sl Lm S w va xs) (hn : n < 1099511627000) (hxl : xs.length ≤ 549755813000) :
    Calls Try.prog 94 #[va, .int .i64 n] w fun e w' => ∃ v, e = .returned v ∧ Own Lm 62 (fun k => w.heap.size ≤ k) w' v (dg LB (val xs * 2 ^ n.toNat)) ∧ Fr (fun k => k < w.heap.size) w w' := by
  obtain ⟨A, c, rfl, _, _, hlx⟩ := ha.slice
  have hxd := Kd.nat_all ha
  have hmax : max n 0 = (n.toNat : Int) := by omega
  obtain ⟨m, hm⟩ : ∃ m, m = n.toNat := ⟨_, rfl⟩
  rw [← hm] at hmax
  rw [← hm]
  have hml : m < 1099511627000 := by omega
  have hf : ∀ R, Fr R w (((w.alloc (.cells #[.slice A xs.length c] 23)).alloc (.cells #[.int .i64 m] 3))) := fun R => ((Fr.refl R w).alloc _).alloc _
  have HA := Lib.hid (ha.up Lm_pos (Nat.le_refl _) (hf _))
  have HM := Lib.hid hm
  clear ha hm
  by_cases h0 : val xs = 0
  · have hz : (dg LB (val xs)).length = 0 := by rw [h0, dg_zero]; rfl
    have hpos : ((((dg LB (val xs)).length : Nat) : Int) == 0) = true := by rw [hz]; rfl
    have H0 := Lib.hid h0
    clear hz h0
    go_enter Try.func94, Try.ntmps94
    go_wp2_with (go_at_call 74; refine (top_calls _ _ _ HA.out).mono ?_; rintro e w' ⟨rfl, rfl⟩)
    go_ret
    exact ⟨_, rfl, by rw [H0.out, Nat.zero_mul, dg_zero]; exact Own.nil _ _ _ _, hf _⟩
  · have hpos : ((((dg LB (val xs)).length : Nat) : Int) == 0) = false := beq_eq_false_iff_ne.2 (by have := (dg_len_pos LB2 (n := val xs)).2 (by omega); omega)
    go_enter Try.func94, Try.ntmps94
    go_wp2_with fail
    refine (top_calls _ _ _ HA.out).mono ?_
    rintro e w1 ⟨rfl, rfl⟩
    go_wp2_with fail
    refine (gather_calls _ (xs.length + m / 32 + 1) (by omega) _ _ _ _ _ (shl_at _ (w.heap.size + 1) w.heap.size (.slice A xs.length c) xs m _ (by omega) (by omega)) ?_).mono ?_
    · exact ⟨HA.out.mono fun k hk => by simp; omega, ⟨Box.at2 rfl, (Box.new _ _ _).alloc _⟩, by simp, by simp <;> omega⟩
    rintro e w2 ⟨v, rfl, ho, hfr⟩
    go_wp2_with fail
    go_ret
    refine ⟨_, rfl, ?_, (hf _).comp hfr fun k hk _ => ⟨hk, by simp; omega, id⟩⟩
    rw [row_total hxd (by have := Nat.pow_lt_pow_right (a := 2) (by omega) (Nat.mod_lt m (show 32 > 0 by omega)); exact this), LB_pow, Nat.mul_assoc, ← Nat.pow_add, Nat.mod_add_div] at ho
    exact ho.mono fun k hk => by simp at hk; omega

/-! Shr. -/
/-- the digits of a number, a power of 2 below -/
def shrF (V n i : Nat) : Nat := V / 2 ^ n / LB ^ i % LB
theorem sumTo_digits (V n : Nat) : sumTo LB (fun i => V / LB ^ i % LB) n = V % LB ^ n := by
  induction n with
  | zero => simp [sumTo, Nat.mod_one]
  | succ n ih => rw [sumTo, ih, Nat.pow_succ, Nat.mod_mul]
theorem shr_total {xs : List Nat} (hx : ∀ d ∈ xs, d < LB) (n : Nat) : sumTo LB (shrF (val xs) n) xs.length = val xs / 2 ^ n := by
  rw [show shrF (val xs) n = fun i => (val xs / 2 ^ n) / LB ^ i % LB from rfl, sumTo_digits]
  exact Nat.mod_eq_of_lt (Nat.lt_of_le_of_lt (Nat.div_le_self _ _) (ofB_lt hx))
theorem shr_digit {xs : List Nat} (hx : ∀ d ∈ xs, d < LB) (n i : Nat) :
    (xs.getD (i + n / 32 + 1) 0 * 4294967296 + xs.getD (i + n / 32) 0) / 2 ^ (n % 32) % 4294967296 = shrF (val xs) n i := by
  have hs : n % 32 < 32 := Nat.mod_lt _ (by omega)
  have e1 : shrF (val xs) n i = (val xs / LB ^ (i + n / 32)) / 2 ^ (n % 32) % LB := by
    unfold shrF
    rw [Nat.div_div_eq_div_mul, Nat.div_div_eq_div_mul]
    congr 2
    rw [LB_pow, LB_pow, ← Nat.pow_add, ← Nat.pow_add]
    congr 1
    omega
  rw [e1, ofB_get LBpos hx (i + n / 32 + 1), ofB_get LBpos hx (i + n / 32), Nat.pow_succ, ← Nat.div_div_eq_div_mul]
  generalize ofB LB xs / LB ^ (i + n / 32) = Y
  have hL : LB = 2 ^ (n % 32) * 2 ^ (32 - n % 32) := two_split hs
  have e2 : Y / LB % LB * 4294967296 + Y % LB = Y % (LB * LB) := by
    rw [Nat.mod_mul]
    show Y / LB % LB * LB + Y % LB = _
    rw [Nat.mul_comm, Nat.add_comm]
  rw [e2]
  generalize hS : 2 ^ (n % 32) = P at hL
  generalize 2 ^ (32 - n % 32) = R at hL
  show Y % (LB * LB) / P % LB = Y / P % LB
  have e3 : LB * LB = P * (R * LB) := by rw [hL]; simp only [Nat.mul_assoc]
  rw [e3, Nat.mod_mul_right_div_self, Nat.mod_mul_left_mod]

set_option maxHeartbeats 400000 in
theorem shr1_calls {S : Nat → Prop} (w : World) (i n : Nat) (bn ba : Nat) (va : Value) (xs : List Nat) (ha : Sl Lm S w va xs) (h1 : Box w bn 3 (.int .i64 n)) (h2 : Box w ba 23 va) (hi : i < 4611686018427387904) (hn : n < 4611686018427387904) :
    Calls Try.prog 107 #[.int .i64 i, .pointer (some ⟨bn, 0, none⟩), .pointer (some ⟨ba, 0, none⟩)] w fun e w' => e = .returned (.int .u64 ((shrF (val xs) n i : Nat) : Int)) ∧ ∃ m, w' = w.drewN m := by
  have c1 := h1.cell
  have c2 := h2.cell
  have hxd := Kd.nat_all ha
  obtain ⟨j, hj⟩ : ∃ j, j = i + n / 32 := ⟨_, rfl⟩
  have hsub : (i : Int) + (n : Int) / 32 = (j : Int) := by omega
  have hjl : j < 9223372036854775800 := by omega
  have hs : n % 32 < 32 := Nat.mod_lt _ (by omega)
  have p1 := fun m => limb_quiet w m va xs ((j : Int) + 1) ha
  have p2 := fun m => limb_quiet w m va xs j ha
  have hd := shr_digit hxd n i
  rw [← hj] at hd
  have l1 := getD_lt hxd (j + 1)
  have l2 := getD_lt hxd j
  rw [show ((j : Int) + 1) = ((j + 1 : Nat) : Int) from by omega] at p1
  simp only [limbAt_nat] at p1 p2
  rw [show ((j + 1 : Nat) : Int) = (j : Int) + 1 from by omega] at p1
  generalize xs.getD (j + 1) 0 = X at p1 l1 hd
  generalize xs.getD j 0 = Y at p2 l2 hd
  have l1' : X < 4294967296 := l1
  have l2' : Y < 4294967296 := l2
  have P1 := Lib.hid p1
  have P2 := Lib.hid p2
  have HR := Lib.hid hd
  have HJ := Lib.hid hj
  clear p1 p2 hd hj
  go_enter Try.func107, Try.ntmps107
  go_wp2_with fail
  go_quiet (first | (with_reducible exact P1.out _) | (with_reducible exact P2.out _))
  go_wp2_with fail
  go_ret
  refine ⟨?_, _, rfl⟩
  have e1 := join32 (x := (X : Int)) (y := (Y : Int)) (by omega) (by omega) (by omega) (by omega)
  show Ending.returned (.int .u64 (bits .and .u64 (bits .or .u64 ((X : Int) * 4294967296) (Y : Int) / 2 ^ (n % 32)) 4294967295)) = _
  have e2 : ((X : Int) * 4294967296 + (Y : Int)) / 2 ^ (n % 32) = (((X * 4294967296 + Y) / 2 ^ (n % 32) : Nat) : Int) := by simp
  have hq : (X * 4294967296 + Y) / 2 ^ (n % 32) ≤ X * 4294967296 + Y := Nat.div_le_self _ _
  rw [e1, e2, mask32 (Int.natCast_nonneg _) (Int.ofNat_lt.2 (Nat.lt_of_le_of_lt hq (by omega) : _ < 18446744073709551616)), ← HR.out]
  simp

theorem shr_at (B bn ba : Nat) (va : Value) (xs : List Nat) (n m : Nat) (hn : n < 4611686018427387904) (hm : m < 4611686018427387904) :
    At Try.prog 107 #[.pointer (some ⟨bn, 0, none⟩), .pointer (some ⟨ba, 0, none⟩)] m (shrF (val xs) n) (fun _ => False) B
    (fun _ w => Sl Lm (fun k => k < B) w va xs ∧ (Box w bn 3 (.int .i64 n) ∧ Box w ba 23 va) ∧ bn < B ∧ ba < B) where
  enter := enter_of Try.func107 (by decide) rfl
  keep := by
    rintro i w w' ⟨h1, ⟨h3, h4⟩, h5, h6⟩ hf
    exact ⟨h1.fr hf, ⟨h3.fr hf h5, h4.fr hf h6⟩, h5, h6⟩
  call := by
    rintro i w hi ⟨h1, ⟨h3, h4⟩, h5, h6⟩ hB
    refine (shr1_calls w i n bn ba va xs h1 h3 h4 (by omega) hn).mono ?_
    rintro e w' ⟨rfl, m, rfl⟩
    have hf : ∀ S, Fr S w (w.drewN m) := fun S => (Fr.refl S w).drewN m
    exact ⟨rfl, ⟨h1.fr (hf _), ⟨h3.fr (hf (fun _ => True)) trivial, h4.fr (hf (fun _ => True)) trivial⟩, h5, h6⟩, hf _⟩
  low := fun _ h => h.elim
  small := by
    intro i _
    have : shrF (val xs) n i < 4294967296 := Nat.mod_lt _ LBpos
    omega

set_option maxHeartbeats 400000 in
theorem shr_calls {S : Nat → Prop} (w : World) (va : Value) (xs : List Nat) (n : Int) (ha : Sl Lm S w va xs) (hn : n < 1099511627000) (hxl : xs.length ≤ 549755813000) :
    Calls Try.prog 98 #[va, .int .i64 n] w fun e w' => ∃ v, e = .returned v ∧ Own Lm 62 (fun k => w.heap.size ≤ k) w' v (dg LB (val xs / 2 ^ n.toNat)) ∧ Fr (fun k => k < w.heap.size) w w' := by
  obtain ⟨A, c, rfl, _, _, hlx⟩ := ha.slice
  have hxd := Kd.nat_all ha
  have hmax : max n 0 = (n.toNat : Int) := by omega
  obtain ⟨m, hm⟩ : ∃ m, m = n.toNat := ⟨_, rfl⟩
  rw [← hm] at hmax
  rw [← hm]
  have hml : m < 1099511627000 := by omega
  have hf : ∀ R, Fr R w (((w.alloc (.cells #[.slice A xs.length c] 23)).alloc (.cells #[.int .i64 m] 3))) := fun R => ((Fr.refl R w).alloc _).alloc _
  have HA := Lib.hid (ha.up Lm_pos (Nat.le_refl _) (hf _))
  have HM := Lib.hid hm
  clear ha hm
  by_cases h0 : xs.length ≤ m / 32
  · have hz : val xs / 2 ^ m = 0 := by
      refine Nat.div_eq_of_lt (Nat.lt_of_lt_of_le (ofB_lt hxd) ?_)
      rw [LB_pow]
      exact Nat.pow_le_pow_right (by omega) (by omega)
    have HZ := Lib.hid hz
    clear hz
    have hge : (xs.length : Int) ≤ (m : Int) / 32 := by omega
    go_enter Try.func98, Try.ntmps98
    go_wp2_with fail
    go_ret
    exact ⟨_, rfl, by rw [HZ.out, dg_zero]; exact Own.nil _ _ _ _, hf _⟩
  · have hge : (m : Int) / 32 < (xs.length : Int) := by omega
    go_enter Try.func98, Try.ntmps98
    go_wp2_with fail
    refine (gather_calls _ xs.length (by omega) _ _ _ _ _ (shr_at _ (w.heap.size + 1) w.heap.size (.slice A xs.length c) xs m _ (by omega) (by omega)) ?_).mono ?_
    · exact ⟨HA.out.mono fun k hk => by simp; omega, ⟨Box.at2 rfl, (Box.new _ _ _).alloc _⟩, by simp, by simp <;> omega⟩
    rintro e w2 ⟨v, rfl, ho, hfr⟩
    go_wp2_with fail
    go_ret
    refine ⟨_, rfl, ?_, (hf _).comp hfr fun k hk _ => ⟨hk, by simp; omega, id⟩⟩
    rw [shr_total hxd] at ho
    exact ho.mono fun k hk => by simp at hk; omega
end Go.Proofs.Ytodpbkcdcchljaa
