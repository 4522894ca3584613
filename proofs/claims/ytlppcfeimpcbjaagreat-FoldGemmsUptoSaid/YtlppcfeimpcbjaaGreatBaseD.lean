/- The base, part D: what the elder chapters' texts prove, of the functions that this seat has. -/
import Derived.Test.YtlppcfeimpcbjaaGreatBaseC
set_option linter.unusedSimpArgs false
set_option linter.unusedVariables false

/- The reference's numbers (fluxionref01), digits of 10000: digit, Add, Small, trim, Times. -/
namespace Go.Proofs.YtlppcfeimpcbjaaGreat
open Go.RowKit

/-- what a digit is below -/
def DB : Nat := 10000
theorem DB2 : 2 ≤ DB := by decide
theorem DBpos : 0 < DB := by decide
/-- digits -/
def Dg : Kd Nat := Kd.nat .i64 DB
theorem Dg_pos : 0 < Dg.size := by decide
theorem info_int : (Tryz.prog.info? 3).map (fun i => (i.zero, i.size, i.bytes)) = some (some (.int .i64 0), 1, 8) := by kernel_rfl
theorem dgT : ElemT Tryz.prog Dg 56 3 8 := .mk' (.int .i64 0) Tryz.underlying56 (by decide) info_int rfl

set_option maxHeartbeats 400000 in
theorem digit_calls {S : Nat → Prop} (w : World) (v : Value) (xs : List Nat) (i : Nat) (h : Sl Dg S w v xs) :
    Calls Tryz.prog 120 #[v, .int .i64 i] w fun e w' => e = .returned (.int .i64 (xs.getD i 0 : Nat)) ∧ w' = w := by
  obtain ⟨A, c, rfl, hcap, hmax, hlen⟩ := h.slice
  by_cases h1 : i < xs.length
  · obtain ⟨ad, rfl, hx, hlt⟩ := Kd.nat_cell h (i := i) h1
    have hgd : xs.getD i 0 = xs[i] := by rw [List.getD_eq_getElem?_getD, List.getElem?_eq_getElem h1]; rfl
    have HG := Lib.hid hgd
    clear hgd h
    go_enter Tryz.func120, Tryz.ntmps120
    go_wp2
    go_ret
    exact ⟨congrArg (fun n : Nat => Ending.returned (.int .i64 (n : Int))) HG.out.symm, rfl⟩
  · have hgd : xs.getD i 0 = 0 := by rw [List.getD_eq_getElem?_getD, List.getElem?_eq_none (by omega)]; rfl
    have HG := Lib.hid hgd
    clear hgd h
    go_enter Tryz.func120, Tryz.ntmps120
    go_wp2
    go_ret
    exact ⟨congrArg (fun n : Nat => Ending.returned (.int .i64 (n : Int))) HG.out.symm, rfl⟩
theorem digit_lt {xs : List Nat} (h : ∀ d ∈ xs, d < DB) (i : Nat) : xs.getD i 0 < DB := by
  rw [List.getD_eq_getElem?_getD]
  cases hx : xs[i]? with
  | none => exact DBpos
  | some d => exact h d (List.mem_of_getElem? hx)

/-- Digits as many as the number needs are its digits. -/
theorem dg_long {b : Nat} (hb : 2 ≤ b) {l : List Nat} (h : ∀ d ∈ l, d < b) (hl : l = [] ∨ b ^ (l.length - 1) ≤ ofB b l) : l = dg b (ofB b l) := by
  have ht := dg_top' hb h
  rcases hl with rfl | hl
  · simp [ofB, dg_zero]
  · have h1 := lt_pow_dg hb (ofB b l)
    have h2 : l.length ≤ (dg b (ofB b l)).length := by
      rcases Nat.lt_or_ge (dg b (ofB b l)).length l.length with hlt | hge
      · have := Nat.pow_le_pow_right (n := b) (by omega) (show (dg b (ofB b l)).length ≤ l.length - 1 by omega)
        omega
      · exact hge
    rw [List.take_of_length_le h2] at ht
    exact ht.symm

/-- What has been put, and the carry: the sum so far. -/
structure AddN (xs ys : List Nat) (i : Nat) (ds : List Nat) (c : Nat) : Prop where
  len : ds.length = i
  small : ∀ d ∈ ds, d < DB
  carry : c ≤ 1
  sum : ofB DB ds + DB ^ i * c = sumTo DB (fun j => xs.getD j 0 + ys.getD j 0) i
  long : i ≤ max xs.length ys.length ∨ DB ^ (i - 1) ≤ ofB DB xs + ofB DB ys
theorem AddN.step {xs ys : List Nat} {i : Nat} {ds : List Nat} {c d : Nat} (h : AddN xs ys i ds c) (hx : ∀ d ∈ xs, d < DB) (hy : ∀ d ∈ ys, d < DB) (hd : d = xs.getD i 0 + ys.getD i 0 + c) (hgo : i < xs.length ∨ i < ys.length ∨ 0 < c) :
    AddN xs ys (i + 1) (ds ++ [d % DB]) (d / DB) := by
  obtain ⟨h1, h2, h3, h4, h5⟩ := h
  have a1 := digit_lt hx i
  have a2 := digit_lt hy i
  refine ⟨by simp [h1], ?_, ?_, ?_, ?_⟩
  · intro x hx'
    rcases List.mem_append.1 hx' with hm | hm
    · exact h2 x hm
    · simp at hm; subst hm; exact Nat.mod_lt _ DBpos
  · have : d / DB < 2 := Nat.div_lt_of_lt_mul (by omega)
    omega
  · have e := Nat.mod_add_div d DB
    rw [ofB_snoc, sumTo, h1, ← h4, Nat.pow_succ, Nat.add_assoc, Nat.add_assoc, Nat.mul_assoc, ← Nat.mul_add, ← Nat.mul_add, e, hd]
    congr 2; omega
  · rcases Nat.lt_or_ge i (max xs.length ys.length) with hlt | hge
    · exact .inl hlt
    · right
      have hc : 1 ≤ c := by omega
      rw [sumTo_add, sumTo_all _ _ _ (by omega), sumTo_all _ _ _ (by omega)] at h4
      have : DB ^ i * 1 ≤ DB ^ i * c := Nat.mul_le_mul_left _ hc
      rw [Nat.add_sub_cancel]
      omega
theorem AddN.done {m n : Nat} {i : Nat} {ds : List Nat} (h : AddN (dg DB m) (dg DB n) i ds 0) (h1 : (dg DB m).length ≤ i) (h2 : (dg DB n).length ≤ i) : ds = dg DB (m + n) := by
  obtain ⟨a1, a2, a3, a4, a5⟩ := h
  rw [sumTo_add, sumTo_all _ _ _ h1, sumTo_all _ _ _ h2, ofB_dg DB2, ofB_dg DB2, Nat.mul_zero, Nat.add_zero] at a4
  rw [ofB_dg DB2, ofB_dg DB2] at a5
  have hl : ds = dg DB (ofB DB ds) := by
    refine dg_long DB2 a2 ?_
    rcases Nat.eq_zero_or_pos i with rfl | hp
    · exact .inl (List.eq_nil_of_length_eq_zero a1)
    · right
      rw [a4, a1]
      rcases a5 with h5 | h5
      · rcases Nat.lt_or_ge (dg DB m).length i with hm | hm
        · have := pow_le_of_dg DB2 (n := n) (k := i - 1) (by omega); omega
        · have := pow_le_of_dg DB2 (n := m) (k := i - 1) (by omega); omega
      · exact h5
  rw [hl, a4]

set_option maxHeartbeats 1000000 in
theorem radd_calls {S T : Nat → Prop} (w : World) (va vb : Value) (m n : Nat) (ha : Sl Dg S w va (dg DB m)) (hb : Sl Dg T w vb (dg DB n)) (hm : (dg DB m).length ≤ 1099511627000) (hn : (dg DB n).length ≤ 1099511627000) :
    Calls Tryz.prog 82 #[va, vb] w fun e w' => ∃ v, e = .returned v ∧ Own Dg 3 (fun k => w.heap.size ≤ k) w' v (dg DB (m + n)) ∧ Fr (fun k => k < w.heap.size) w w' := by
  have hxd := Kd.nat_all ha
  have hyd := Kd.nat_all hb
  generalize hxs : dg DB m = xs at *
  generalize hys : dg DB n = ys at *
  have HX := Lib.hid hxs
  have HY := Lib.hid hys
  obtain ⟨A, c, rfl, _, _, hlx⟩ := ha.slice
  obtain ⟨A', c', rfl, _, _, hly⟩ := hb.slice
  have HA := Lib.hid (ha.up Dg_pos (Nat.le_refl _) (Fr.refl _ _))
  have HB := Lib.hid (hb.up Dg_pos (Nat.le_refl _) (Fr.refl _ _))
  clear ha hb hxs hys
  go_enter Tryz.func82, Tryz.ntmps82
  go_wp2_with fail
  go_loopw [5, 6, 7] (fun o c i wr => ∃ (j k : Nat) (ds : List Nat), c = .int .i64 k ∧ i = .int .i64 j ∧ AddN xs ys j ds k ∧ (j ≤ max xs.length ys.length ∨ j = max xs.length ys.length + 1 ∧ k = 0) ∧ Own Dg 3 (fun k => w.heap.size ≤ k) wr o ds ∧ Fr (fun k => k < w.heap.size) w wr) (fun _ c i _ => 2 * (max xs.length ys.length + 1 - (intOf i).toNat) + (intOf c).toNat)
  case atStart => exact ⟨0, 0, [], rfl, rfl, ⟨rfl, by simp, by omega, rfl, .inl (by omega)⟩, .inl (by omega), Own.nil _ _ _ _, Fr.refl _ _⟩
  case round =>
    obtain ⟨j, k, ds, rfl, rfl, hN, hj, ho, hfr⟩ := hrel
    have hsa := HA.out.fr hfr
    have hsb := HB.out.fr hfr
    by_cases hgo : j < xs.length ∨ j < ys.length ∨ 0 < k
    · obtain ⟨d, hd⟩ : ∃ d, d = xs.getD j 0 + ys.getD j 0 + k := ⟨_, rfl⟩
      have hstep := hN.step hxd hyd hd hgo
      have a1 := digit_lt hxd j
      have a2 := digit_lt hyd j
      have hk1 := hN.carry
      have hlen := hN.len
      have p1 := digit_calls wr _ xs j hsa
      have p2 := digit_calls wr _ ys j hsb
      have z1 : xs.length ≤ j → xs.getD j 0 = 0 := fun h => by rw [List.getD_eq_getElem?_getD, List.getElem?_eq_none h]; rfl
      have z2 : ys.length ≤ j → ys.getD j 0 = 0 := fun h => by rw [List.getD_eq_getElem?_getD, List.getElem?_eq_none h]; rfl
      have hsum : ((xs.getD j 0 : Nat) : Int) + ((ys.getD j 0 : Nat) : Int) + (k : Int) = (d : Int) := by omega
      have hd2 : d < 20000 := by unfold DB at a1 a2; omega
      generalize xs.getD j 0 = X at p1 hsum a1 z1
      generalize ys.getD j 0 = Y at p2 hsum a2 z2
      have a1' : X < 10000 := a1
      have a2' : Y < 10000 := a2
      have P1 := Lib.hid p1
      have P2 := Lib.hid p2
      have HL := Lib.hid hlen
      have HZ := Lib.hid (show (j + 1 ≤ max xs.length ys.length ∨ j + 1 = max xs.length ys.length + 1 ∧ d / DB = 0) ∧ 2 * (max xs.length ys.length + 1 - (j + 1)) + d / 10000 < 2 * (max xs.length ys.length + 1 - j) + k from by unfold DB; omega)
      clear p1 p2 hd hlen z1 z2
      have hrd : Dg.rd (fun _ => False) wr (d % DB) [.int .i64 ((d : Int) % 10000)] := ⟨by simp [DB], Nat.mod_lt _ DBpos⟩
      have HR := Lib.hid hrd
      clear hrd
      go_wp2_with (first
        | ((with_reducible refine P1.out.mono ?_); rintro e w' ⟨rfl, rfl⟩)
        | ((with_reducible refine P2.out.mono ?_); rintro e w' ⟨rfl, rfl⟩)
        | (at_builtin; refine wpList_push1 (v := u5) dgT rfl rfl rfl rfl ho HR.out (fun _ h => h.elim) (fun k hk => by have := hfr.size; omega) (by rw [HL.out]; omega) (by rw [HL.out]; omega) ?_; intro v' w1 hown hfr1 hat))
      all_goals exact ⟨⟨j + 1, d / DB, _, by simp [DB], by go_num, hstep, HZ.out.1, hown, hfr.push ho hfr1 (fun k hk _ => by omega)⟩, by have := HZ.out.2; simp [intOf]; omega⟩
    · have h1 : xs.length ≤ j := by omega
      have h2 : ys.length ≤ j := by omega
      obtain rfl : k = 0 := by omega
      go_wp2_with fail
      go_ret
      have hx := HX.out
      have hy := HY.out
      subst hx
      subst hy
      rw [hN.done h1 h2] at ho
      exact ⟨_, rfl, ho, hfr⟩

/-- what a number's digits come to, and how many they are -/
theorem val_dd (n : Nat) : ofB DB (dg DB n) = n := ofB_dg DB2 n

set_option maxHeartbeats 400000 in
theorem small_calls (w : World) (n : Nat) (hn : n < 9223372036854775808) :
    Calls Tryz.prog 113 #[.int .i64 n] w fun e w' => ∃ v, e = .returned v ∧ Own Dg 3 (fun k => w.heap.size ≤ k) w' v (dg DB n) ∧ Fr (fun k => k < w.heap.size) w w' := by
  go_enter Tryz.func113, Tryz.ntmps113
  go_wp2_with fail
  go_loopw [0, 3] (fun i o wr => ∃ (m : Nat) (ds : List Nat), i = .int .i64 m ∧ m ≤ n ∧ ds ++ dg DB m = dg DB n ∧ Own Dg 3 (fun k => w.heap.size ≤ k) wr o ds ∧ Fr (fun k => k < w.heap.size) w wr) (fun i _ _ => (intOf i).toNat)
  case atStart => exact ⟨n, [], rfl, Nat.le_refl _, rfl, Own.nil _ _ _ _, Fr.refl _ _⟩
  case round =>
    obtain ⟨m, ds, rfl, hmn, hd, ho, hfr⟩ := hrel
    by_cases h0 : 0 < m
    · have hl5 : ds.length ≤ 5 := by
        have h1 := congrArg List.length hd
        have h2 : (dg DB n).length ≤ 5 := dg_len_le DB2 (Nat.lt_of_lt_of_le hn (by decide))
        rw [List.length_append] at h1; omega
      rw [dg_pos DB2 h0] at hd
      have hrd : Dg.rd (fun _ => False) wr (m % DB) [.int .i64 ((m : Int) % 10000)] := ⟨by simp [DB], Nat.mod_lt _ DBpos⟩
      have HR := Lib.hid hrd
      have HD := Lib.hid hd
      clear hrd hd
      go_wp2_with (at_builtin; refine wpList_push1 (v := u3) dgT rfl rfl rfl rfl ho HR.out (fun _ h => h.elim) (fun k hk => by have := hfr.size; omega) (by omega) (by omega) ?_; intro v' w1 hown hfr1 hat)
      go_roundw
      case rel => exact ⟨m / DB, _, by simp [DB], Nat.le_trans (Nat.div_le_self _ _) hmn, by rw [List.append_assoc]; exact HD.out, hown, hfr.push ho hfr1 (fun k hk _ => by omega)⟩
      case measure => simp [intOf]; omega
    · obtain rfl : m = 0 := by omega
      rw [dg_zero, List.append_nil] at hd
      subst hd
      go_wp2_with fail
      go_ret
      exact ⟨_, rfl, ho, hfr⟩

set_option maxHeartbeats 400000 in
theorem rtrim_calls {S : Nat → Prop} (w : World) (v : Value) (xs : List Nat) (h : Own Dg 3 S w v xs) :
    Calls Tryz.prog 121 #[v] w fun e w' => ∃ v, e = .returned v ∧ Own Dg 3 S w v (dg DB (ofB DB xs)) ∧ w' = w := by
  have hs := h.sl
  have hd := Kd.nat_all hs
  obtain ⟨A, c, rfl, hcap, hmax, hlen⟩ := hs.slice
  have H := Lib.hid h
  have HS := Lib.hid hs
  clear h hs
  go_enter Tryz.func121, Tryz.ntmps121
  go_wp2
  go_loop [3] (fun n => ∃ k : Nat, k ≤ xs.length ∧ n = .int .i64 k ∧ Hid (∀ j, k ≤ j → j < xs.length → xs[j]? = some 0)) (fun n => (intOf n).toNat)
  case atStart => exact ⟨xs.length, Nat.le_refl _, rfl, fun j h1 h2 => by omega⟩
  case round =>
    obtain ⟨k, hk, rfl, hz⟩ := hrel
    have hkc : (k : Int) ≤ (c : Int) := by omega
    by_cases h0 : 0 < k
    · obtain ⟨ad, rfl, hx, _⟩ := Kd.nat_cell HS.out (i := k - 1) (by omega)
      by_cases hx0 : xs[k-1]'(by omega) = 0
      · rw [hx0] at hx
        have HX := Lib.hid hx0
        clear hx0
        go_wp2
        go_round
        case rel =>
          refine ⟨k - 1, by omega, by go_num, fun j h1 h2 => ?_⟩
          by_cases e : j = k - 1
          · subst e; rw [List.getElem?_eq_getElem h2, HX.out]
          · exact hz.out j (by omega) h2
        case measure => simp [intOf]; omega
      · have hb : (((xs[k-1]'(by omega) : Nat) : Int) == 0) = false := by simpa using hx0
        have HX := Lib.hid hx0
        clear hx0
        go_wp2
        go_ret
        have ht := dg_top DB2 hd hk hz.out (fun _ => by rw [List.getElem?_eq_getElem (by omega)]; simpa using HX.out)
        exact ⟨_, rfl, by rw [← ht.1]; exact H.out.take hk, rfl⟩
    · go_wp2
      go_ret
      have ht := dg_top DB2 hd hk hz.out (fun h => absurd h h0)
      exact ⟨_, rfl, by rw [← ht.1]; exact H.out.take hk, rfl⟩

structure TimesN (xs : List Nat) (m i : Nat) (ds : List Nat) (c : Nat) : Prop where
  len : ds.length = i
  small : ∀ d ∈ ds, d < DB
  carry : c ≤ m
  sum : ofB DB ds + DB ^ i * c = m * sumTo DB (fun j => xs.getD j 0) i
  room : i + c ≤ xs.length + m
theorem TimesN.step {xs : List Nat} {m i : Nat} {ds : List Nat} {c x : Nat} (h : TimesN xs m i ds c) (hx : ∀ d ∈ xs, d < DB) (hd : x = xs.getD i 0 * m + c) (hgo : i < xs.length ∨ 0 < c) :
    TimesN xs m (i + 1) (ds ++ [x % DB]) (x / DB) ∧ (xs.length - (i + 1)) * (m + 1) + x / DB < (xs.length - i) * (m + 1) + c := by
  obtain ⟨h1, h2, h3, h4, h5⟩ := h
  have a1 := digit_lt hx i
  have hc : x / DB ≤ m := by
    have : x / DB < m + 1 := Nat.div_lt_of_lt_mul (by
      have := Nat.mul_le_mul_right m (show xs.getD i 0 ≤ 9999 from by unfold DB at a1; omega)
      unfold DB; omega)
    omega
  have hz : xs.length ≤ i → x = c := fun h => by rw [hd, List.getD_eq_getElem?_getD, List.getElem?_eq_none h]; simp
  have hcd : xs.length ≤ i → x / DB < c := fun h => by
    rw [hz h]; exact Nat.div_lt_self (by omega) (by decide)
  refine ⟨⟨by simp [h1], ?_, hc, ?_, ?_⟩, ?_⟩
  · intro y hy
    rcases List.mem_append.1 hy with hm | hm
    · exact h2 y hm
    · simp at hm; subst hm; exact Nat.mod_lt _ DBpos
  · have e := Nat.mod_add_div x DB
    rw [ofB_snoc, sumTo, h1, Nat.mul_add, ← h4, Nat.pow_succ, Nat.add_assoc, Nat.add_assoc, Nat.mul_assoc, ← Nat.mul_add, e, hd, Nat.mul_add, Nat.add_comm (DB ^ i * c), ← Nat.add_assoc, ← Nat.add_assoc]
    congr 2
    ac_rfl
  · rcases Nat.lt_or_ge i xs.length with h | h
    · omega
    · have := hcd h; omega
  · rcases Nat.lt_or_ge i xs.length with h | h
    · have e : (xs.length - i) * (m + 1) = (xs.length - (i + 1)) * (m + 1) + (m + 1) := by
        rw [← Nat.succ_mul]; congr 1; omega
      omega
    · have := hcd h
      rw [show xs.length - (i + 1) = 0 from by omega, show xs.length - i = 0 from by omega]; omega

set_option maxHeartbeats 1000000 in
theorem times_calls {S : Nat → Prop} (w : World) (va : Value) (xs : List Nat) (m : Nat) (ha : Sl Dg S w va xs) (hm : m ≤ 4294967296) (hxl : xs.length ≤ 1099511627000) :
    Calls Tryz.prog 116 #[va, .int .i64 m] w fun e w' => ∃ v, e = .returned v ∧ Own Dg 3 (fun k => w.heap.size ≤ k) w' v (dg DB (ofB DB xs * m)) ∧ Fr (fun k => k < w.heap.size) w w' := by
  have hxd := Kd.nat_all ha
  obtain ⟨A, c, rfl, _, _, hlx⟩ := ha.slice
  have HA := Lib.hid (ha.up Dg_pos (Nat.le_refl _) (Fr.refl _ _))
  clear ha
  go_enter Tryz.func116, Tryz.ntmps116
  go_wp2_with fail
  go_loopw [5, 6, 7] (fun o c i wr => ∃ (j k : Nat) (ds : List Nat), c = .int .i64 k ∧ i = .int .i64 j ∧ TimesN xs m j ds k ∧ Own Dg 3 (fun k => w.heap.size ≤ k) wr o ds ∧ Fr (fun k => k < w.heap.size) w wr) (fun _ c i _ => (xs.length - (intOf i).toNat) * (m + 1) + (intOf c).toNat)
  case atStart => exact ⟨0, 0, [], rfl, rfl, ⟨rfl, by simp, by omega, rfl, by omega⟩, Own.nil _ _ _ _, Fr.refl _ _⟩
  case round =>
    obtain ⟨j, k, ds, rfl, rfl, hN, ho, hfr⟩ := hrel
    have hsa := HA.out.fr hfr
    have hlen := hN.len
    have hroom := hN.room
    have hk1 := hN.carry
    by_cases hgo : j < xs.length ∨ 0 < k
    · obtain ⟨x, hx⟩ : ∃ x, x = xs.getD j 0 * m + k := ⟨_, rfl⟩
      have hstep := hN.step hxd hx hgo
      have a1 := digit_lt hxd j
      have p1 := digit_calls wr _ xs j hsa
      generalize xs.getD j 0 = X at p1 hx a1
      have a1' : X < 10000 := a1
      have hp : X * m ≤ 9999 * 4294967296 := Nat.mul_le_mul (by omega) hm
      have hxl2 : x < 9223372036854775807 := by omega
      have P1 := Lib.hid p1
      have HL := Lib.hid hlen
      have HX := Lib.hid hx
      have HS := Lib.hid hstep
      have hrd : Dg.rd (fun _ => False) wr (x % DB) [.int .i64 (((X : Int) * (m : Int) + (k : Int)) % 10000)] := by
        rw [hx]; exact ⟨by simp [DB], Nat.mod_lt _ DBpos⟩
      have HR := Lib.hid hrd
      clear p1 hx hlen hstep hrd
      go_wp2_with (first
        | ((with_reducible refine P1.out.mono ?_); rintro e w' ⟨rfl, rfl⟩)
        | (at_builtin; refine wpList_push1 (v := u5) dgT rfl rfl rfl rfl ho HR.out (fun _ h => h.elim) (fun k hk => by have := hfr.size; omega) (by rw [HL.out]; omega) (by rw [HL.out]; omega) ?_; intro v' w1 hown hfr1 hat))
      all_goals
        refine ⟨⟨j + 1, x / DB, _, ?_, by go_num, HS.out.1, hown, hfr.push ho hfr1 (fun k hk _ => by omega)⟩, ?_⟩
        · have := HX.out
          subst this
          simp [DB]
        · have e : ((X : Int) * (m : Int) + (k : Int)) = (x : Int) := by have := HX.out; subst this; simp
          rw [e]
          have := HS.out.2
          unfold DB at this
          have e1 : ((j : Int) + 1).toNat = j + 1 := by omega
          have e2 : ((x : Int) / 10000).toNat = x / 10000 := by omega
          simpa only [intOf, e1, e2, Int.toNat_natCast] using this
    · obtain rfl : k = 0 := by omega
      have hj : xs.length ≤ j := by omega
      go_wp2_with fail
      refine (rtrim_calls wr _ ds ho).mono ?_
      rintro e w1 ⟨v, rfl, hv, rfl⟩
      have hs := hN.sum
      rw [sumTo_all _ _ _ hj, Nat.mul_zero, Nat.add_zero] at hs
      go_wp2_with fail
      go_ret
      exact ⟨_, rfl, by rw [Nat.mul_comm, ← hs]; exact hv, hfr⟩
end Go.Proofs.YtlppcfeimpcbjaaGreat


/- The reference's numbers: Of, Cmp, Canonical, Is, said of numbers. -/
namespace Go.Proofs.YtlppcfeimpcbjaaGreat
open Go.RowKit

/-- A reference's number in memory. -/
structure RC (S : Nat → Prop) (w : World) (v : Value) (N L : Nat) : Prop where
  sl : Sl Dg S w v (dg DB N)
  len : (dg DB N).length ≤ L
theorem RC.form {S : Nat → Prop} {w : World} {v : Value} {N L : Nat} (h : RC S w v N L) : ∃ A n c, v = .slice A n c := h.sl.form
theorem RC.keep {S : Nat → Prop} {w w' : World} {v : Value} {N L : Nat} (h : RC S w v N L) (hf : Fr (fun k => k < w.heap.size) w w') : RC S w' v N L := ⟨h.sl.keep' Dg_pos hf, h.len⟩
theorem RC.mono {S T : Nat → Prop} {w : World} {v : Value} {N L : Nat} (h : RC S w v N L) (hs : ∀ k, S k → T k) : RC T w v N L := ⟨h.sl.mono hs, h.len⟩
theorem RC.of {e : TypeId} {S : Nat → Prop} {w : World} {v : Value} {N L : Nat} (h : Own Dg e S w v (dg DB N)) (hl : N < DB ^ L) : RC S w v N L := ⟨h.sl, dg_len_le DB2 hl⟩
theorem RC.lt {S : Nat → Prop} {w : World} {v : Value} {N L : Nat} (h : RC S w v N L) : N < DB ^ L :=
  Nat.lt_of_lt_of_le (lt_pow_dg DB2 N) (Nat.pow_le_pow_right DBpos h.len)
theorem RC.len' {S : Nat → Prop} {w : World} {v : Value} {N L K : Nat} (h : RC S w v N L) (hl : N < DB ^ K) : RC S w v N K := ⟨h.sl, dg_len_le DB2 hl⟩
theorem RC.nil (S : Nat → Prop) (w : World) (L : Nat) : RC S w (.slice none 0 0) 0 L := ⟨by rw [dg_zero]; exact Sl.nil _ _ _, by rw [dg_zero]; simp⟩

theorem add_r {S T : Nat → Prop} (w : World) (va vb : Value) (M N L K : Nat) (ha : RC S w va M L) (hb : RC T w vb N K) (hl : L ≤ 1099511627000) (hk : K ≤ 1099511627000) :
    Calls Tryz.prog 82 #[va, vb] w fun e w' => ∃ v, e = .returned v ∧ RC (fun k => w.heap.size ≤ k) w' v (M + N) (max L K + 1) ∧ Fr (fun k => k < w.heap.size) w w' := by
  refine (radd_calls w va vb M N ha.sl hb.sl (Nat.le_trans ha.len hl) (Nat.le_trans hb.len hk)).mono ?_
  rintro e w' ⟨v, rfl, h, hf⟩
  refine ⟨v, rfl, .of h ?_, hf⟩
  have h1 : DB ^ L ≤ DB ^ max L K := Nat.pow_le_pow_right DBpos (by omega)
  have h2 : DB ^ K ≤ DB ^ max L K := Nat.pow_le_pow_right DBpos (by omega)
  have h3 : DB ^ max L K * 2 ≤ DB ^ max L K * DB := Nat.mul_le_mul_left _ DB2
  have := ha.lt
  have := hb.lt
  rw [Nat.pow_succ]
  omega
theorem times_r {S : Nat → Prop} (w : World) (va : Value) (N L m : Nat) (ha : RC S w va N L) (hm : m ≤ 4294967296) (hl : L ≤ 1099511627000) :
    Calls Tryz.prog 116 #[va, .int .i64 m] w fun e w' => ∃ v, e = .returned v ∧ RC (fun k => w.heap.size ≤ k) w' v (N * m) (L + 3) ∧ Fr (fun k => k < w.heap.size) w w' := by
  have h1 := ha.lt
  refine (times_calls w va _ m ha.sl hm (Nat.le_trans ha.len hl)).mono ?_
  rintro e w' ⟨v, rfl, h, hf⟩
  rw [val_dd] at h
  refine ⟨v, rfl, .of h ?_, hf⟩
  rw [Nat.pow_add]
  exact Nat.mul_lt_mul_of_lt_of_le h1 (Nat.le_trans hm (by decide)) (by decide)
theorem times_64k {S : Nat → Prop} (w : World) (va : Value) (N L : Nat) (ha : RC S w va N L) (hl : L ≤ 1099511627000) :
    Calls Tryz.prog 116 #[va, .int .i64 65536] w fun e w' => ∃ v, e = .returned v ∧ RC (fun k => w.heap.size ≤ k) w' v (N * 65536) (L + 3) ∧ Fr (fun k => k < w.heap.size) w w' :=
  times_r w va N L 65536 ha (by decide) hl
theorem small_r (w : World) (n L : Nat) (hn : n < 9223372036854775808) (hL : n < DB ^ L) :
    Calls Tryz.prog 113 #[.int .i64 n] w fun e w' => ∃ v, e = .returned v ∧ RC (fun k => w.heap.size ≤ k) w' v n L ∧ Fr (fun k => k < w.heap.size) w w' := by
  refine (small_calls w n hn).mono ?_
  rintro e w' ⟨v, rfl, h, hf⟩
  exact ⟨v, rfl, .of h hL, hf⟩

theorem LB_DB (k : Nat) : LB ^ k ≤ DB ^ (3 * k) := by
  rw [Nat.pow_mul]; exact Nat.pow_le_pow_left (by decide) k
theorem drop_val {xs : List Nat} {k : Nat} (h : k < xs.length) : val (xs.drop k) = val (xs.drop (k + 1)) * 65536 * 65536 + xs[k] := by
  rw [List.drop_eq_getElem_cons h]
  show xs[k] + LB * val (xs.drop (k + 1)) = _
  unfold LB; omega
theorem drop_lt {xs : List Nat} (hd : ∀ d ∈ xs, d < LB) (k : Nat) : val (xs.drop k) < DB ^ (3 * (xs.length - k)) := by
  have := ofB_lt (b := LB) (l := xs.drop k) (fun d h => hd d (List.mem_of_mem_drop h))
  rw [List.length_drop] at this
  exact Nat.lt_of_lt_of_le this (LB_DB _)

set_option maxHeartbeats 1000000 in
theorem of_r {S : Nat → Prop} (w : World) (va : Value) (N L : Nat) (ha : Num S w va N L) (hL : L ≤ 1099511620) :
    Calls Tryz.prog 78 #[va] w fun e w' => ∃ v, e = .returned v ∧ RC (fun k => w.heap.size ≤ k) w' v N (3 * L) ∧ Fr (fun k => k < w.heap.size) w w' := by
  have hlt := ha.lt
  obtain ⟨xs, hx, rfl, hl⟩ := ha
  have hd := Kd.nat_all hx
  obtain ⟨A, c, rfl, _, _, hlx⟩ := hx.slice
  have HX := Lib.hid (hx.up Lm_pos (Nat.le_refl _) (Fr.refl _ _))
  clear hx
  go_enter Tryz.func78, Tryz.ntmps78
  go_wp2_with fail
  go_loopw [3, 4] (fun o i wr => ∃ (k : Nat), k ≤ xs.length ∧ i = .int .i64 ((k : Int) - 1) ∧ RC (fun k => w.heap.size ≤ k) wr o (val (xs.drop k)) (3 * (xs.length - k)) ∧ Fr (fun k => k < w.heap.size) w wr) (fun _ i _ => (intOf i + 1).toNat)
  case atStart => exact ⟨xs.length, Nat.le_refl _, rfl, by rw [List.drop_length]; exact RC.nil _ _ _, Fr.refl _ _⟩
  case round =>
    obtain ⟨k, hk, rfl, ho, hfr⟩ := hrel
    by_cases h0 : 0 < k
    · obtain ⟨j, rfl⟩ : ∃ j, k = j + 1 := ⟨k - 1, by omega⟩
      have hval := drop_val (xs := xs) (k := j) (by omega)
      have hlt1 := drop_lt hd j
      obtain ⟨ad, rfl, hc, hm⟩ := Kd.nat_cell HX.out (i := j) (by omega)
      have hc1 := hfr.drew.cell hc (World.block_lt_of_cell? _ _ hc)
      generalize xs[j] = y at hval hc hc1 hm
      generalize val (xs.drop (j + 1)) = M at hval ho
      have hm' : y < 4294967296 := hm
      have hidx : ((j + 1 : Nat) : Int) - 1 = (j : Int) := by omega
      rw [hidx]
      have HV := Lib.hid (And.intro hval hlt1)
      clear hval hlt1 hidx
      have hoD : RC (fun k => w.heap.size ≤ k) wr.drew u3 M (3 * (xs.length - (j + 1))) := ⟨ho.sl.fr (Fr.refl _ _).drew, ho.len⟩
      have hlt2 := World.block_lt_of_cell? _ _ hc1
      have hwrap : IntKind.i64.wrap (y : Int) = (y : Int) := by rw [IntKind.wrap_i64]; omega
      have hfD := hfr.drew
      have hadw := World.block_lt_of_cell? _ _ hc
      have hsz := hfD.size
      clear ho hfr
      go_wp2_with fail
      go_region_with (first
        | ((with_reducible refine (times_64k _ u3 M _ hoD (by omega)).mono ?_); rintro e w1 ⟨v1, rfl, ho1, hf1⟩; have hc2 := hf1.cell hc1 hlt2; have hlt3 := World.block_lt_of_cell? _ _ hc2; have hsz1 := hf1.size)
        | ((with_reducible refine (times_64k _ v1 (M * 65536) _ ho1 (by omega)).mono ?_); rintro e w2 ⟨v2, rfl, ho2, hf2⟩; have hc3 := hf2.cell hc2 hlt3; have hsz2 := hf2.size)
        | ((with_reducible refine (small_r _ y 3 (by omega) (Nat.lt_of_lt_of_le hm' (by decide))).mono ?_); rintro e w3 ⟨v3, rfl, ho3, hf3⟩; have hsz3 := hf3.size)
        | ((with_reducible refine (add_r _ v2 v3 (M * 65536 * 65536) y _ _ (ho2.keep hf3) ho3 (by omega) (by omega)).mono ?_); rintro e w4 ⟨v4, rfl, ho4, hf4⟩))
      all_goals
        go_wp2_with fail
        go_roundw
        case rel =>
          have hF := fr_then (fr_then (fr_then (fr_then hfD hf1) hf2) hf3) hf4
          have ho5 := ho4.mono (T := fun k => w.heap.size ≤ k) (fun k hk => by omega)
          rw [← HV.out.1] at ho5
          exact ⟨j, by omega, by go_num, ho5.len' HV.out.2, hF⟩
        case measure => first | (simp [intOf]; done) | (simp [intOf]; omega)
    · obtain rfl : k = 0 := by omega
      go_wp2_with fail
      go_ret
      rw [List.drop_zero] at ho
      exact ⟨_, rfl, ho.len' (Nat.lt_of_lt_of_le hlt (LB_DB _)), hfr⟩
end Go.Proofs.YtlppcfeimpcbjaaGreat


/- The reference's Cmp; Canonical, Is. -/
namespace Go.Proofs.YtlppcfeimpcbjaaGreat
open Go.RowKit

theorem ofB_less {b : Nat} {xs ys : List Nat} {i : Nat} (hb : 0 < b) (hx : ∀ d ∈ xs, d < b) (hlen : xs.length = ys.length) (hi : i < ys.length) (he : ∀ j, i < j → j < xs.length → xs.getD j 0 = ys.getD j 0) (hl : xs.getD i 0 < ys.getD i 0) : ofB b xs < ofB b ys := by
  rw [← sumTo_all b xs xs.length (Nat.le_refl _), ← sumTo_all b ys xs.length (by omega)]
  refine sumTo_less (by omega) (fun j => ?_) he hl
  rw [List.getD_eq_getElem?_getD]
  cases hx' : xs[j]? with
  | none => exact hb
  | some d => exact hx d (List.mem_of_getElem? hx')
theorem dg_len_mono {b : Nat} (hb : 2 ≤ b) {m n : Nat} (h : m ≤ n) : (dg b m).length ≤ (dg b n).length := dg_len_le hb (Nat.lt_of_le_of_lt h (lt_pow_dg hb n))
theorem getD_at {l : List Nat} {j : Nat} (h : j < l.length) : l.getD j 0 = l[j] := by rw [List.getD_eq_getElem?_getD, List.getElem?_eq_getElem h]; rfl

set_option maxHeartbeats 1000000 in
theorem cmp_r {S T : Nat → Prop} (w : World) (va vb : Value) (M N L K : Nat) (ha : RC S w va M L) (hb : RC T w vb N K) :
    Calls Tryz.prog 83 #[va, vb] w fun e w' => e = .returned (.int .i64 (cmpN M N)) ∧ Fr (fun _ => True) w w' := by
  have hs := ha.sl
  have hs' := hb.sl
  have hxd := Kd.nat_all hs
  have hyd := Kd.nat_all hs'
  have hm := val_dd M
  have hn := val_dd N
  have hmono := @dg_len_mono DB DB2 M N
  have hmono' := @dg_len_mono DB DB2 N M
  generalize dg DB M = xs at hs hxd hm hmono hmono'
  generalize dg DB N = ys at hs' hyd hn hmono hmono'
  clear ha hb
  obtain ⟨A, c, rfl, _, _, hlx⟩ := hs.slice
  obtain ⟨A', c', rfl, _, _, hly⟩ := hs'.slice
  obtain ⟨r, hr⟩ : ∃ r, r = cmpN M N := ⟨_, rfl⟩
  rw [← hr]
  have h1 : M < N → r = -1 := fun h => by rw [hr, cmpN, if_pos h]
  have h2 : N < M → r = 1 := fun h => by rw [hr, cmpN, if_neg (by omega), if_pos h]
  have h3 : M = N → r = 0 := fun h => by rw [hr, cmpN, if_neg (by omega), if_neg (by omega)]
  have HR := Lib.hid (And.intro h1 (And.intro h2 h3))
  have HX := Lib.hid hs
  have HY := Lib.hid hs'
  have HV := Lib.hid (And.intro hm hn)
  clear hs hs' hr h1 h2 h3 hm hn
  by_cases hll : xs.length = ys.length
  · have hb2 : ((xs.length : Int) == (ys.length : Int)) = true := by rw [hll]; simp
    have HLL := Lib.hid hll
    clear hll
    go_enter Tryz.func83, Tryz.ntmps83
    go_wp2
    clear hb2
    go_loopw [5] (fun i wr => ∃ (k : Nat), k ≤ xs.length ∧ i = .int .i64 ((k : Int) - 1) ∧ Fr (fun _ => True) w wr ∧ Hid (∀ j, k ≤ j → j < xs.length → xs.getD j 0 = ys.getD j 0)) (fun i _ => (intOf i + 1).toNat)
    case atStart => exact ⟨xs.length, Nat.le_refl _, rfl, Fr.refl _ _, fun j h1 h2 => by omega⟩
    case round =>
      have hll := HLL.out
      obtain ⟨k, hk, rfl, HW, hz⟩ := hrel
      by_cases h0 : 0 < k
      · obtain ⟨j, rfl⟩ : ∃ j, k = j + 1 := ⟨k - 1, by omega⟩
        obtain ⟨ad, rfl, hc, hm⟩ := Kd.nat_cell HX.out (i := j) (by omega)
        obtain ⟨ad', rfl, hc', hm'⟩ := Kd.nat_cell HY.out (i := j) (by omega)
        have e1 := getD_at (l := xs) (j := j) (by omega)
        have e2 := getD_at (l := ys) (j := j) (by omega)
        have hidx : ((j + 1 : Nat) : Int) - 1 = (j : Int) := by omega
        rw [hidx]
        generalize xs[j] = X at hc hm e1
        generalize ys[j] = Y at hc' hm' e2
        have hlt : X < Y → M < N := fun h => by
          have := ofB_less DBpos hxd hll (i := j) (by omega) (fun i a b => hz.out i a b) (by omega)
          rwa [HV.out.1, HV.out.2] at this
        have hgt : Y < X → N < M := fun h => by
          have := ofB_less DBpos hyd hll.symm (i := j) (by omega) (fun i a b => (hz.out i a (by omega)).symm) (by omega)
          rwa [HV.out.1, HV.out.2] at this
        have HG := Lib.hid (And.intro hlt hgt)
        have HE := Lib.hid (And.intro e1 e2)
        clear hidx hlt hgt e1 e2
        have hcw : wr.cell? (ad.add j) = some (.int .i64 X) := HW.cell hc trivial
        have hcw' : wr.cell? (ad'.add j) = some (.int .i64 Y) := HW.cell hc' trivial
        have hj1 : j < xs.length := by omega
        have hj2 : j < ys.length := by omega
        clear hll hc hc'
        rcases Nat.lt_trichotomy X Y with h | h | h
        · go_wp2
          go_quiet (fail)
          go_wp2
          go_ret
          exact ⟨congrArg (fun n : Int => Ending.returned (.int .i64 n)) (HR.out.1 (HG.out.1 h)).symm, HW.drewN _⟩
        · subst h
          go_wp2
          go_quiet (fail)
          go_wp2
          go_quiet (fail)
          go_wp2
          go_roundw
          case rel =>
            refine ⟨j, by omega, by go_num, HW.drewN _, fun i a b => ?_⟩
            by_cases hij : i = j
            · subst hij; rw [HE.out.1, HE.out.2]
            · exact hz.out i (by omega) b
          case measure => first | (simp [intOf]; done) | (simp [intOf]; omega)
        · go_wp2
          go_quiet (fail)
          go_wp2
          go_quiet (fail)
          go_wp2
          go_ret
          exact ⟨congrArg (fun n : Int => Ending.returned (.int .i64 n)) (HR.out.2.1 (HG.out.2 h)).symm, (HW.drewN _).drewN _⟩
      · obtain rfl : k = 0 := by omega
        have e : M = N := by
          rw [← HV.out.1, ← HV.out.2, ← sumTo_all DB xs xs.length (Nat.le_refl _), ← sumTo_all DB ys xs.length (by omega)]
          exact sumTo_congr fun i hi => hz.out i (Nat.zero_le _) hi
        have E := Lib.hid e
        clear e
        go_wp2
        go_ret
        exact ⟨congrArg (fun n : Int => Ending.returned (.int .i64 n)) (HR.out.2.2 E.out).symm, HW⟩
  · have hb2 : ((xs.length : Int) == (ys.length : Int)) = false := beq_eq_false_iff_ne.2 (by omega)
    rcases Nat.lt_or_ge xs.length ys.length with h | h
    · have E := Lib.hid (show M < N from by omega)
      go_enter Tryz.func83, Tryz.ntmps83
      go_wp2
      go_ret
      exact ⟨congrArg (fun n : Int => Ending.returned (.int .i64 n)) (HR.out.1 E.out).symm, Fr.refl _ _⟩
    · have E := Lib.hid (show N < M from by omega)
      go_enter Tryz.func83, Tryz.ntmps83
      go_wp2
      go_ret
      exact ⟨congrArg (fun n : Int => Ending.returned (.int .i64 n)) (HR.out.2.1 E.out).symm, Fr.refl _ _⟩

theorem canonical_calls {S : Nat → Prop} (w : World) (v : Value) (N L : Nat) (h : Can S w v N L) :
    Calls Tryz.prog 140 #[v] w fun e w' => e = .returned (.bool true) ∧ w' = w := by
  have hs := h.sl
  have hlast := dg_last LB2 N
  generalize dg LB N = xs at hs hlast
  clear h
  obtain ⟨A, c, rfl, _, _, hlx⟩ := hs.slice
  by_cases h0 : xs.length = 0
  · rw [h0]
    clear hs hlast
    go_enter Tryz.func140, Tryz.ntmps140
    go_wp2
    go_ret
    exact ⟨rfl, rfl⟩
  · obtain ⟨ad, rfl, hc, hm⟩ := Kd.nat_cell hs (i := xs.length - 1) (by omega)
    have hx := hlast (xs[xs.length - 1]'(by omega)) (by rw [List.getLast?_eq_getElem?, List.getElem?_eq_getElem])
    generalize xs[xs.length - 1]'(by omega) = X at hx hc hm
    have hb : ((X : Int) == 0) = false := beq_eq_false_iff_ne.2 (by omega)
    have hb2 : ((xs.length : Int) == 0) = false := beq_eq_false_iff_ne.2 (by omega)
    have hb3 : ((X : Int) != 0) = true := by rw [bne, hb]; rfl
    have HB := Lib.hid hb3
    clear hs hlast hb3 hb
    go_enter Tryz.func140, Tryz.ntmps140
    go_wp2
    go_ret
    exact ⟨congrArg (fun b : Bool => Ending.returned (.bool b)) HB.out, rfl⟩

theorem is_n {S T : Nat → Prop} (w : World) (vr v : Value) (M N L K : Nat) (hr : RC S w vr M K) (h : Can T w v N L) (hL : L ≤ 1099511620) (he : M = N) :
    Calls Tryz.prog 122 #[vr, v] w fun e w' => e = .returned (.bool true) ∧ Fr (fun k => k < w.heap.size) w w' := by
  subst he
  have hcmp : cmpN M M = 0 := by unfold cmpN; simp
  have HC := Lib.hid hcmp
  clear hcmp
  go_enter Tryz.func122, Tryz.ntmps122
  go_wp2_with fail
  refine (canonical_calls _ _ _ _ h).mono ?_
  rintro e w' ⟨rfl, rfl⟩
  go_wp2_with fail
  refine (of_r _ _ _ _ h.num hL).mono ?_
  rintro e w1 ⟨v1, rfl, h1, hf⟩
  go_wp2_with fail
  refine (cmp_r _ _ _ _ _ _ _ h1 (hr.keep hf)).mono ?_
  rintro e w2 ⟨rfl, hf2⟩
  rw [HC.out]
  go_wp2_with fail
  go_ret
  exact ⟨rfl, fr_then hf (hf2.mono fun _ _ _ => trivial)⟩
end Go.Proofs.YtlppcfeimpcbjaaGreat


/- NatAdds, NatOrders. -/
namespace Go.Proofs.YtlppcfeimpcbjaaGreat
open Go.RowKit

end Go.Proofs.YtlppcfeimpcbjaaGreat


/- The reference's Sub, Mul. -/
namespace Go.Proofs.YtlppcfeimpcbjaaGreat
open Go.RowKit

/-- What has been put of a difference, and what is lent. -/
structure SubN (xs ys : List Nat) (i : Nat) (ds : List Nat) (c : Nat) : Prop where
  len : ds.length = i
  small : ∀ d ∈ ds, d < DB
  lent : c ≤ 1
  sum : ofB DB ds + sumTo DB (fun j => ys.getD j 0) i = sumTo DB (fun j => xs.getD j 0) i + DB ^ i * c
theorem SubN.step {xs ys : List Nat} {i : Nat} {ds : List Nat} {c d c' : Nat} (h : SubN xs ys i ds c) (hd : d < DB) (hc : c' ≤ 1) (e : d + ys.getD i 0 + c = xs.getD i 0 + DB * c') : SubN xs ys (i + 1) (ds ++ [d]) c' := by
  obtain ⟨h1, h2, h3, h4⟩ := h
  refine ⟨by simp [h1], ?_, hc, ?_⟩
  · intro x hx'
    rcases List.mem_append.1 hx' with hm | hm
    · exact h2 x hm
    · simp at hm; subst hm; exact hd
  · rw [ofB_snoc, sumTo, sumTo, h1, Nat.pow_succ, Nat.mul_assoc]
    have := congrArg (fun n => DB ^ i * n) e
    simp only [Nat.mul_add] at this
    omega
theorem SubN.done {xs ys : List Nat} {i : Nat} {ds : List Nat} {c : Nat} (h : SubN xs ys i ds c) (h1 : xs.length ≤ i) (h2 : ys.length ≤ i) (hle : ofB DB ys ≤ ofB DB xs) : ofB DB ds = ofB DB xs - ofB DB ys := by
  obtain ⟨a1, a2, a3, a4⟩ := h
  rw [sumTo_all _ _ _ h1, sumTo_all _ _ _ h2] at a4
  have hlt := ofB_lt a2
  rw [a1] at hlt
  have : c = 0 := by
    rcases Nat.eq_zero_or_pos c with h | h
    · exact h
    · have := Nat.mul_le_mul_left (DB ^ i) h
      omega
  subst this
  omega

theorem digit_quiet {S : Nat → Prop} (w : World) (v : Value) (xs : List Nat) (i : Nat) (n : Nat) (h : Sl Dg S w v xs) :
    Calls Tryz.prog 120 #[v, .int .i64 i] (w.drewN n) fun e w'' => e = .returned (.int .i64 (xs.getD i 0 : Nat)) ∧ ∃ m, w'' = w.drewN m :=
  Calls.quiet_of_same (digit_calls _ _ _ _ (h.fr ((Fr.refl _ _).drewN _)))

set_option maxHeartbeats 1000000 in
theorem sub_r {S T : Nat → Prop} (w : World) (va vb : Value) (M N L K : Nat) (ha : RC S w va M L) (hb : RC T w vb N K) (hl : L ≤ 1099511627000) (hle : N ≤ M) :
    Calls Tryz.prog 84 #[va, vb] w fun e w' => ∃ v, e = .returned (.tuple #[v, .bool true]) ∧ RC (fun k => w.heap.size ≤ k) w' v (M - N) L ∧ Fr (fun k => k < w.heap.size) w w' := by
  have hlt := ha.lt
  have hc := cmp_r w va vb M N L K ha hb
  have hxl := Nat.le_trans ha.len hl
  have hs := ha.sl.up Dg_pos (Nat.le_refl _) (Fr.refl _ _)
  have hs' := hb.sl.up Dg_pos (Nat.le_refl _) (Fr.refl _ _)
  have hxd := Kd.nat_all hs
  have hyd := Kd.nat_all hs'
  have hm := val_dd M
  have hn := val_dd N
  have hmono := @dg_len_mono DB DB2 N M hle
  generalize dg DB M = xs at hs hxd hm hmono hxl
  generalize dg DB N = ys at hs' hyd hn hmono
  clear ha hb
  obtain ⟨A, c, rfl, _, _, hlx⟩ := hs.slice
  obtain ⟨A', c', rfl, _, _, hly⟩ := hs'.slice
  obtain ⟨r, hr, hr0⟩ : ∃ r, r = cmpN M N ∧ 0 ≤ r := ⟨_, rfl, by unfold cmpN; split <;> (try split) <;> omega⟩
  rw [← hr] at hc
  have HC := Lib.hid hc
  have HX := Lib.hid hs
  have HY := Lib.hid hs'
  have HV := Lib.hid (And.intro hm hn)
  clear hs hs' hr hm hn hc
  go_enter Tryz.func84, Tryz.ntmps84
  go_wp2_with fail
  refine HC.out.mono ?_
  rintro e w1 ⟨rfl, hf1⟩
  have HX1 := Lib.hid (HX.out.fr (hf1.mono fun _ _ _ => trivial))
  have HY1 := Lib.hid (HY.out.fr (hf1.mono fun _ _ _ => trivial))
  have hf1' : Fr (fun k => k < w.heap.size) w w1 := hf1.mono fun _ _ _ => trivial
  have hsz1 := hf1.size
  clear hf1 HX HY HC
  go_wp2_with fail
  go_loopw [6, 7, 8, 9] (fun o l i _ wr => ∃ (j k : Nat) (ds : List Nat), j ≤ xs.length ∧ l = .int .i64 k ∧ i = .int .i64 j ∧ SubN xs ys j ds k ∧ Own Dg 3 (fun k => w.heap.size ≤ k) wr o ds ∧ Fr (fun k => k < w.heap.size) w1 wr) (fun _ _ i _ _ => xs.length - (intOf i).toNat)
  case atStart => exact ⟨0, 0, [], Nat.zero_le _, rfl, rfl, ⟨rfl, by simp, by omega, rfl⟩, Own.nil _ _ _ _, Fr.refl _ _⟩
  case round =>
    obtain ⟨j, k, ds, hj, rfl, rfl, hN, ho, hfr⟩ := hrel
    have hlen := hN.len
    have hk1 := hN.lent
    by_cases hgo : j < xs.length
    · have hsa := HX1.out.fr hfr
      have hsb := HY1.out.fr hfr
      obtain ⟨ad, rfl, hcx, hmx⟩ := Kd.nat_cell hsa (i := j) hgo
      have e1 := getD_at hgo
      have p1 := fun n => digit_quiet wr _ ys j n hsb
      have a2 := digit_lt hyd j
      have hst : ∀ d c', _ := fun d c' => hN.step (d := d) (c' := c')
      rw [e1] at hst
      generalize xs[j] = X at hcx hmx e1 hst
      generalize ys.getD j 0 = Y at p1 a2 hst
      have hX : X < 10000 := hmx
      have hY : Y < 10000 := a2
      have P1 := Lib.hid p1
      have HL := Lib.hid hlen
      have HST := Lib.hid hst
      have HE := Lib.hid e1
      have HA := Lib.hid (And.intro hsa hsb)
      clear p1 hlen hst e1 hsa hsb
      by_cases hneg : Y + k ≤ X
      · have hrd : Dg.rd (fun _ => False) wr (X - Y - k) [.int .i64 ((X : Int) - (Y : Int) - (k : Int))] := by
          refine ⟨?_, by unfold DB; omega⟩
          congr 2; omega
        have HR := Lib.hid hrd
        clear hrd
        go_wp2_with fail
        go_quiet (first | (with_reducible exact P1.out _))
        have hoN : Own Dg 3 (fun k => w.heap.size ≤ k) (wr.drewN nq) u6 ds := ho.fr ((Fr.refl _ _).drewN _)
        have hfN : Fr (fun k => k < w.heap.size) w1 (wr.drewN nq) := hfr.drewN nq
        have HS2 := Lib.hid (HST.out (X - Y - k) 0 (by unfold DB; omega) (by omega) (by omega))
        have HR2 := Lib.hid (show Dg.rd (fun _ => False) (wr.drewN nq) (X - Y - k) [.int .i64 ((X : Int) - (Y : Int) - (k : Int))] from HR.out)
        clear HR ho hfr HST
        generalize wr.drewN nq = wq at *
        go_wp2_with (at_builtin; refine wpList_push1 (v := u6) dgT rfl rfl rfl rfl hoN HR2.out (fun _ h => h.elim) (fun k hk => by have := hfN.size; omega) (by rw [HL.out]; omega) (by rw [HL.out]; omega) ?_; intro v' w2 hown hfr1 hat)
        go_roundw
        case rel => exact ⟨j + 1, 0, _, by omega, rfl, by go_num, HS2.out, hown, hfN.comp hfr1 fun k hk h => ⟨h, fun e => by have := hoN.in_ k e.symm; omega⟩⟩
        case measure => first | (simp [intOf]; done) | (simp [intOf]; omega)
      · have hrd : Dg.rd (fun _ => False) wr (X + 10000 - Y - k) [.int .i64 ((X : Int) - (Y : Int) - (k : Int) + 10000)] := by
          refine ⟨?_, by unfold DB; omega⟩
          congr 2; omega
        have HR := Lib.hid hrd
        clear hrd
        go_wp2_with fail
        go_quiet (first | (with_reducible exact P1.out _))
        have hoN : Own Dg 3 (fun k => w.heap.size ≤ k) (wr.drewN nq) u6 ds := ho.fr ((Fr.refl _ _).drewN _)
        have hfN : Fr (fun k => k < w.heap.size) w1 (wr.drewN nq) := hfr.drewN nq
        have HS2 := Lib.hid (HST.out (X + 10000 - Y - k) 1 (by unfold DB; omega) (by omega) (by unfold DB; omega))
        have HR2 := Lib.hid (show Dg.rd (fun _ => False) (wr.drewN nq) (X + 10000 - Y - k) [.int .i64 ((X : Int) - (Y : Int) - (k : Int) + 10000)] from HR.out)
        clear HR ho hfr HST
        generalize wr.drewN nq = wq at *
        go_wp2_with (at_builtin; refine wpList_push1 (v := u6) dgT rfl rfl rfl rfl hoN HR2.out (fun _ h => h.elim) (fun k hk => by have := hfN.size; omega) (by rw [HL.out]; omega) (by rw [HL.out]; omega) ?_; intro v' w2 hown hfr1 hat)
        go_roundw
        case rel => exact ⟨j + 1, 1, _, by omega, rfl, by go_num, HS2.out, hown, hfN.comp hfr1 fun k hk h => ⟨h, fun e => by have := hoN.in_ k e.symm; omega⟩⟩
        case measure => first | (simp [intOf]; done) | (simp [intOf]; omega)
    · obtain rfl : j = xs.length := by omega
      go_wp2_with fail
      refine (rtrim_calls wr _ ds ho).mono ?_
      rintro e w2 ⟨v, rfl, hv, rfl⟩
      go_wp2_with fail
      go_ret2
      rw [hN.done (Nat.le_refl _) hmono (by rw [HV.out.1, HV.out.2]; exact hle), HV.out.1, HV.out.2] at hv
      exact ⟨_, rfl, .of hv (by omega), hf1'.comp hfr fun k hk h => ⟨h, h⟩⟩

theorem Own.one {α : Type} {K : Kd α} {e : TypeId} {S : Nat → Prop} (w : World) (hS : S w.heap.size) {x : α} {cs : List Value} (h1 : K.size = 1) (hr : ∀ T W, K.rd T W x cs) : Own K e S (w.alloc (.cells cs.toArray e)) (.slice (some ⟨w.heap.size, 0, none⟩) 1 1) [x] := by
  have hcl := K.len (hr (fun _ => True) w)
  refine ⟨cs, ⟨by simp [h1, hcl], .inr ⟨w.heap.size, 1, cs.toArray, rfl, Nat.zero_le _, heap_alloc_new _ _, Nat.le_refl _, by decide, by simp [hcl, h1], ?_⟩⟩, fun g hg => by simp [Value.ownBlock] at hg; subst hg; exact hS, fun i y hy => ?_⟩
  · rw [h1, List.take_of_length_le (by simp [hcl, h1])]
  cases i with
  | zero =>
    simp at hy; subst hy
    exact ⟨cs, hr _ _, fun j u hj => by simpa using hj⟩
  | succ n => simp at hy
theorem dg_shift (M : Nat) (h : 0 < M) : dg DB (DB * M) = 0 :: dg DB M := by
  have := dg_cons (b := DB) (d := 0) (n := M) DB2 DBpos (by have := Nat.mul_pos DBpos h; omega)
  rwa [Nat.zero_add] at this
theorem ofB_drop_le {b : Nat} (hb : 0 < b) : ∀ (l : List Nat) (i : Nat), ofB b (l.drop i) ≤ ofB b l := by
  intro l
  induction l with
  | nil => intro i; simp
  | cons d l ih =>
    intro i
    cases i with
    | zero => exact Nat.le_refl _
    | succ n =>
      rw [List.drop_succ_cons]
      have h1 := ih n
      have h2 : ofB b l ≤ b * ofB b l := Nat.le_mul_of_pos_left _ hb
      show _ ≤ d + b * ofB b l
      omega

set_option maxHeartbeats 1000000 in
theorem mul_r {S T : Nat → Prop} (w : World) (va vb : Value) (M N L K : Nat) (ha : RC S w va M L) (hb : RC T w vb N K) (hl : L + K ≤ 1099511620) :
    Calls Tryz.prog 81 #[va, vb] w fun e w' => ∃ v, e = .returned v ∧ RC (fun k => w.heap.size ≤ k) w' v (M * N) (L + K) ∧ Fr (fun k => k < w.heap.size) w w' := by
  have hm := ha.lt
  have hn := hb.lt
  have hyl := hb.len
  have hs' := hb.sl.up Dg_pos (Nat.le_refl _) (Fr.refl _ _)
  have ha' : RC (fun k => k < w.heap.size) w va M L := ⟨ha.sl.up Dg_pos (Nat.le_refl _) (Fr.refl _ _), ha.len⟩
  have hyd := Kd.nat_all hs'
  have hv := val_dd N
  generalize dg DB N = ys at hs' hyd hv hyl
  clear ha hb
  obtain ⟨A', c', rfl, _, _, hly⟩ := hs'.slice
  have HA := Lib.hid ha'
  have HY := Lib.hid hs'
  have HV := Lib.hid hv
  clear ha' hs' hv
  have hbig : ∀ i, M * ofB DB (ys.drop i) < DB ^ (L + K) := fun i => by
    have h1 := ofB_drop_le DBpos ys i
    rw [HV.out] at h1
    rw [Nat.pow_add]
    exact Nat.lt_of_le_of_lt (Nat.mul_le_mul_left _ h1) (Nat.mul_lt_mul_of_lt_of_lt hm hn)
  have HB := Lib.hid hbig
  clear hbig
  go_enter Tryz.func81, Tryz.ntmps81
  go_wp2_with fail
  go_loopw [5, 6, 7] (fun o i _ wr => ∃ (k : Nat), k ≤ ys.length ∧ i = .int .i64 ((k : Int) - 1) ∧ RC (fun k => w.heap.size ≤ k) wr o (M * ofB DB (ys.drop k)) (L + K) ∧ Fr (fun k => k < w.heap.size) w wr) (fun _ i _ _ => (intOf i + 1).toNat)
  case atStart => exact ⟨ys.length, Nat.le_refl _, rfl, by rw [List.drop_length]; exact RC.nil _ _ _, Fr.refl _ _⟩
  case round =>
    obtain ⟨k, hk, rfl, ho, hfr⟩ := hrel
    by_cases h0 : 0 < k
    · obtain ⟨j, rfl⟩ : ∃ j, k = j + 1 := ⟨k - 1, by omega⟩
      have hj : j < ys.length := by omega
      have hval : M * ofB DB (ys.drop j) = DB * (M * ofB DB (ys.drop (j + 1))) + M * ys[j] := by
        rw [List.drop_eq_getElem_cons hj]
        show M * (ys[j] + DB * ofB DB (ys.drop (j + 1))) = _
        rw [Nat.mul_add, Nat.mul_left_comm, Nat.add_comm]
      obtain ⟨ad, rfl, hc, hmy⟩ := Kd.nat_cell HY.out (i := j) hj
      have hadw := World.block_lt_of_cell? _ _ hc
      have hb1 := HB.out j
      generalize ys[j] = y at hval hc hmy
      generalize M * ofB DB (ys.drop (j + 1)) = R at hval ho
      obtain ⟨R', hR'⟩ : ∃ R', R' = M * ofB DB (ys.drop j) := ⟨_, rfl⟩
      rw [← hR'] at hval hb1
      have hidx : ((j + 1 : Nat) : Int) - 1 = (j : Int) := by omega
      rw [hidx]
      have HVV := Lib.hid (And.intro hval (And.intro hb1 hR'))
      have hy' : y ≤ 4294967296 := by unfold DB at hmy; omega
      clear hval hidx hR' hb1
      obtain ⟨A1, n1, c1, hv1⟩ := ho.form
      have hlen := ho.len
      have hsl := ho.sl
      obtain ⟨_, _, hv2, _, _, _⟩ := ho.sl.slice
      rw [hv2] at hv1
      have hcw := hfr.cell hc hadw
      by_cases hR0 : R = 0
      · subst hR0
        rw [dg_zero] at hsl hv2
        subst hv2
        have HA1 : RC (fun k => k < w.heap.size) wr va M L := ⟨HA.out.sl.fr hfr, HA.out.len⟩
        have hup : RC (fun k => w.heap.size ≤ k) wr (.slice none 0 0) (DB * 0) (L + K) := RC.nil _ _ _
        clear hsl hlen ho
        go_wp2_with fail
        refine (times_r _ _ _ _ y HA1 hy' (by omega)).mono ?_
        rintro e w2 ⟨v2, rfl, h2, hf2⟩
        replace h2 := h2.len' (K := L + K) (Nat.lt_of_le_of_lt (by have := HVV.out.1; omega) HVV.out.2.1)
        go_wp2_with fail
        refine (add_r _ _ _ (DB * 0) _ _ _ (hup.keep hf2) h2 (by omega) (by omega)).mono ?_
        rintro e w3 ⟨v3, rfl, h3, hf3⟩
        go_wp2_with fail
        go_roundw
        case rel =>
          rw [← HVV.out.1] at h3
          refine ⟨j, by omega, by go_num, ?_, fr_then (fr_then hfr hf2) hf3⟩
          rw [← HVV.out.2.2]
          have s1 := hfr.size
          have s2 := hf2.size
          exact (h3.len' HVV.out.2.1).mono fun k hk => by omega
        case measure => first | (simp [intOf]; done) | (simp [intOf]; omega)
      · have hpos : 0 < (dg DB R).length := (dg_len_pos DB2).2 (by omega)
        subst hv2
        have hsh := dg_shift R (by omega)
        have hDR : DB * R < DB ^ (L + K) := Nat.lt_of_le_of_lt (by have := HVV.out.1; omega) HVV.out.2.1
        generalize dg DB R = rs at *
        have HSH := Lib.hid (And.intro hsh hDR)
        have HSL := Lib.hid hsl
        have HN := Lib.hid (show ([0].length + rs.length) * 8 ≤ 140737488355328 ∧ [0].length + rs.length ≤ 9223372036854775807 from by simp; omega)
        have hb8 := World.block_lt_of_cell? _ _ hcw
        clear hsh hsl ho hDR
        go_wp2_with (at_builtin; refine wpList_push (v := .slice (some ⟨wr.heap.size, 0, none⟩) 1 1) dgT rfl rfl rfl rfl (Own.one (K := Dg) (e := 3) (S := fun k => wr.heap.size ≤ k) wr (Nat.le_refl _) (x := 0) (cs := [.int .i64 0]) rfl (fun _ _ => ⟨rfl, DBpos⟩)) (HSL.out.fr ((Fr.refl _ wr).alloc _)) (fun y cs h => Kd.nat_any (S := fun k => w.heap.size ≤ k) h) (fun k hk => by simp at hk; omega) HN.out.1 HN.out.2 ?_; intro v' w1 hown hfr1 hat; have fW : Fr (fun k => k < w.heap.size) w w1 := (hfr.alloc _).comp hfr1 (fun k hk h => ⟨h, by have := hfr.size; simp [Value.ownBlock]; omega⟩); have hcw1 := fW.cell hc hadw)
        have HA1 : RC (fun k => k < w.heap.size) w1 va M L := ⟨HA.out.sl.fr fW, HA.out.len⟩
        have hup : RC (fun k => wr.heap.size ≤ k) w1 v' (DB * R) (L + K) := by
          have h := hown
          rw [List.singleton_append, ← HSH.out.1] at h
          exact .of h HSH.out.2
        obtain ⟨A3, n3, c3, rfl⟩ := hup.form
        go_wp2_with fail
        refine (times_r _ _ _ _ y HA1 hy' (by omega)).mono ?_
        rintro e w2 ⟨v2, rfl, h2, hf2⟩
        replace h2 := h2.len' (K := L + K) (Nat.lt_of_le_of_lt (by have := HVV.out.1; omega) HVV.out.2.1)
        go_wp2_with fail
        refine (add_r _ _ _ (DB * R) _ _ _ (hup.keep hf2) h2 (by omega) (by omega)).mono ?_
        rintro e w3 ⟨v3, rfl, h3, hf3⟩
        go_wp2_with fail
        go_roundw
        case rel =>
          rw [← HVV.out.1] at h3
          refine ⟨j, by omega, by go_num, ?_, fr_then (fr_then fW hf2) hf3⟩
          rw [← HVV.out.2.2]
          have s1 := fW.size
          have s2 := hf2.size
          exact (h3.len' HVV.out.2.1).mono fun k hk => by omega
        case measure => first | (simp [intOf]; done) | (simp [intOf]; omega)
    · obtain rfl : k = 0 := by omega
      go_wp2_with fail
      go_ret
      rw [List.drop_zero, HV.out] at ho
      exact ⟨_, rfl, ho, hfr⟩
end Go.Proofs.YtlppcfeimpcbjaaGreat


/- NatSubs, NatOrders, NatMuls. -/
namespace Go.Proofs.YtlppcfeimpcbjaaGreat
open Go.RowKit

theorem own_sl {S : Nat → Prop} {w : World} {v : Value} {M L : Nat} (h : Num S w v M L) : ∃ A n c, v = .slice A n c := h.form

theorem cmp_n {S T : Nat → Prop} (w : World) (va vb : Value) (M N L K : Nat) (ha : Num S w va M L) (hb : Num T w vb N K) :
    Calls Tryz.prog 136 #[va, vb] w fun e w' => e = .returned (.int .i64 (cmpN M N)) ∧ Fr (fun k => k < w.heap.size) w w' := by
  obtain ⟨xs, a1, rfl, a3⟩ := ha
  obtain ⟨ys, b1, rfl, b3⟩ := hb
  exact cmp_calls w va vb xs ys a1 b1
theorem cmp_r' {S T : Nat → Prop} (w : World) (va vb : Value) (M N L K : Nat) (ha : RC S w va M L) (hb : RC T w vb N K) :
    Calls Tryz.prog 83 #[va, vb] w fun e w' => e = .returned (.int .i64 (cmpN M N)) ∧ Fr (fun k => k < w.heap.size) w w' :=
  (cmp_r w va vb M N L K ha hb).mono fun _ _ ⟨h1, h2⟩ => ⟨h1, h2.mono fun _ _ _ => trivial⟩
theorem sub_r_no {S T : Nat → Prop} (w : World) (va vb : Value) (M N L K : Nat) (ha : RC S w va M L) (hb : RC T w vb N K) (hlt : M < N) :
    Calls Tryz.prog 84 #[va, vb] w fun e w' => e = .returned (.tuple #[.slice none 0 0, .bool false]) ∧ Fr (fun k => k < w.heap.size) w w' := by
  have hc := cmp_r' w va vb M N L K ha hb
  rw [show cmpN M N = -1 from if_pos hlt] at hc
  have HC := Lib.hid hc
  clear hc
  go_enter Tryz.func84, Tryz.ntmps84
  go_wp2_with fail
  refine HC.out.mono ?_
  rintro e w1 ⟨rfl, hf1⟩
  go_wp2_with fail
  go_ret2
  exact ⟨rfl, hf1⟩

end Go.Proofs.YtlppcfeimpcbjaaGreat


/- The reference's Short, Bits, Power. -/
namespace Go.Proofs.YtlppcfeimpcbjaaGreat
open Go.RowKit

def rowOf (qs : List Nat) : Array Value := (qs.map fun q : Nat => Value.int .i64 (q : Int)).toArray
/-- A row of numbers in a block of its own. -/
def Row (w : World) (g : Nat) (qs : List Nat) : Prop := w.heap[g]? = some (.cells (rowOf qs) 3)
theorem Row.free {w : World} {g : Nat} {qs : List Nat} (h : Row w g qs) (j : Nat) : w.frozen? ⟨g, j, none⟩ = false := frozen_of_row w g j _ _ h
theorem Row.lt {w : World} {g : Nat} {qs : List Nat} (h : Row w g qs) : g < w.heap.size := lt_of_block h
theorem Row.cell {w : World} {g : Nat} {qs : List Nat} (h : Row w g qs) {j : Nat} (hj : j < qs.length) : w.cell? ⟨g, j, none⟩ = some (.int .i64 (qs[j] : Int)) := by
  rw [cell_of_row w g j _ _ (0, 0) h]
  simp [rowOf, hj]
theorem Row.set {w : World} {g : Nat} {qs : List Nat} (h : Row w g qs) (j q : Nat) : Row (w.setCell ⟨g, j, none⟩ (.int .i64 (q : Int))) g (qs.set j q) := by
  have h1 : w.heap[g]? = some (.cells (rowOf qs) 3 (0, 0)) := h
  unfold Row
  simp only [World.setCell, Array.getElem?_modify, h1, if_true, Option.map_some]
  congr 2
  apply Array.ext'
  simp [rowOf, List.map_set]
theorem Row.own {S : Nat → Prop} {w : World} {g : Nat} {qs : List Nat} (h : Row w g qs) (hS : S g) (hd : ∀ q ∈ qs, q < DB) (hl : qs.length ≤ 1099511627000) : Own Dg 3 S w (.slice (some ⟨g, 0, none⟩) qs.length qs.length) qs := by
  refine ⟨qs.map fun q : Nat => Value.int .i64 (q : Int), ⟨by simp [Dg, Kd.nat], .inr ⟨g, qs.length, rowOf qs, rfl, Nat.zero_le _, h, Nat.le_refl _, by unfold maxLen; omega, by simp [rowOf, Dg, Kd.nat], ?_⟩⟩, fun k hk => by simp [Value.ownBlock] at hk; subst hk; exact hS, fun i x hx => ⟨[.int .i64 (x : Int)], ⟨rfl, hd x (List.mem_of_getElem? hx)⟩, fun j u hj => ?_⟩⟩
  · rw [List.take_of_length_le (by simp [rowOf, Dg, Kd.nat])]; simp [rowOf]
  · have hj0 : j = 0 := by
      have := (List.getElem?_eq_some_iff.1 hj).1
      simp at this; exact this
    subst hj0
    simp at hj
    subst hj
    simp [Dg, Kd.nat, hx]
theorem Row.fr {S : Nat → Prop} {w w' : World} {g : Nat} {qs : List Nat} (h : Row w g qs) (hf : Fr S w w') (hS : S g) : Row w' g qs := hf.obj h hS

structure ShortN (xs : List Nat) (d k : Nat) (qs : List Nat) (r : Nat) : Prop where
  len : qs.length = xs.length
  small : ∀ q ∈ qs, q < DB
  rest : r < d
  sum : ofB DB (xs.drop k) = d * ofB DB (qs.drop k) + r
theorem ShortN.step {xs : List Nat} {d j : Nat} {qs : List Nat} {r x : Nat} (h : ShortN xs d (j + 1) qs r) (hj : j < xs.length) (hx : ∀ d ∈ xs, d < DB) (e : x = r * DB + xs[j]) : x / d < DB ∧ ShortN xs d j (qs.set j (x / d)) (x % d) := by
  obtain ⟨h1, h2, h3, h4⟩ := h
  have hxj := hx xs[j] (List.getElem_mem hj)
  have hq : x / d < DB := by
    refine Nat.div_lt_of_lt_mul ?_
    have h5 := Nat.mul_le_mul_right DB (show r + 1 ≤ d from h3)
    rw [Nat.add_mul, Nat.one_mul] at h5
    omega
  refine ⟨hq, by simp [h1], ?_, Nat.mod_lt _ (by omega), ?_⟩
  · intro q hm
    rcases List.mem_or_eq_of_mem_set hm with h | rfl
    · exact h2 q h
    · exact hq
  · have e1 : (qs.set j (x / d)).drop j = x / d :: qs.drop (j + 1) := by
      rw [List.drop_eq_getElem_cons (by simp; omega)]
      simp [List.drop_set_of_lt]
    have e2 := Nat.div_add_mod x d
    have h4' := congrArg (fun n => DB * n) h4
    simp only [Nat.mul_add] at h4'
    rw [e1, List.drop_eq_getElem_cons hj]
    show xs[j] + DB * ofB DB (xs.drop (j + 1)) = d * (x / d + DB * ofB DB (qs.drop (j + 1))) + x % d
    rw [Nat.mul_add, Nat.mul_left_comm d DB, h4', Nat.mul_comm DB r]
    omega

set_option maxHeartbeats 1000000 in
theorem short_r {S : Nat → Prop} (w : World) (va : Value) (N L d : Nat) (ha : RC S w va N L) (hl : L ≤ 1099511627000) (hd : 0 < d) (hd2 : d ≤ 4294967296) :
    Calls Tryz.prog 112 #[va, .int .i64 d] w fun e w' => ∃ v, e = .returned (.tuple #[v, .int .i64 ((N % d : Nat) : Int)]) ∧ RC (fun k => w.heap.size ≤ k) w' v (N / d) L ∧ Fr (fun k => k < w.heap.size) w w' := by
  have hlt := ha.lt
  have hxl := Nat.le_trans ha.len hl
  have hs := ha.sl.up Dg_pos (Nat.le_refl _) (Fr.refl _ _)
  have hxd := Kd.nat_all hs
  have hm := val_dd N
  generalize dg DB N = xs at hs hxd hm hxl
  clear ha
  obtain ⟨A, c, rfl, _, _, hlx⟩ := hs.slice
  obtain ⟨i0, hi, hz0, hz1, hz2⟩ := info_parts info_int
  have hmk : ∀ u : World, (Instr.makeSlice 56 (.int .i64 (xs.length : Int)) (.int .i64 (xs.length : Int))).run Tryz.prog u = .ok (.slice (some ⟨u.heap.size, 0, none⟩) xs.length xs.length) (u.alloc (.cells (rowOf (List.replicate xs.length 0)) 3)) := fun u => by
    have h := run_make (P := Tryz.prog) u 56 3 i0 (.int .i64 0) Tryz.underlying56 hi hz0 .i64 .i64 (xs.length : Int) (xs.length : Int) (by omega) (Int.le_refl _) (by rw [hz2]; omega) (by omega)
    rw [Int.toNat_natCast, hz1, Nat.mul_one] at h
    rw [h]
    refine congrArg (fun c => Result.ok _ (World.alloc u (Obj.cells c _ _))) ?_
    apply Array.ext'
    simp [madeCells, rowOf, Value.cells]
    apply List.ext_getElem
    · simp
    · intro i h1 h2
      simp [Nat.mod_one]
  have HX := Lib.hid hs
  have HV := Lib.hid hm
  clear hs hm
  go_enter Tryz.func112, Tryz.ntmps112
  go_wp2_with fail
  go_loopw [7, 8, 9] (fun r i _ wr => ∃ (k m : Nat) (qs : List Nat), k ≤ xs.length ∧ i = .int .i64 ((k : Int) - 1) ∧ r = .int .i64 m ∧ ShortN xs d k qs m ∧ Row wr w.heap.size qs ∧ Fr (fun k => k < w.heap.size) w wr) (fun _ i _ _ => (intOf i + 1).toNat)
  case atStart => exact ⟨xs.length, 0, List.replicate xs.length 0, Nat.le_refl _, rfl, rfl, ⟨by simp, fun q h => by rw [List.eq_of_mem_replicate h]; exact DBpos, hd, by simp [ofB]⟩, heap_alloc_new _ _, (Fr.refl _ _).alloc _⟩
  case round =>
    obtain ⟨k, m, qs, hk, rfl, rfl, hN, hrow, hfr⟩ := hrel
    by_cases h0 : 0 < k
    · obtain ⟨j, rfl⟩ : ∃ j, k = j + 1 := ⟨k - 1, by omega⟩
      have hj : j < xs.length := by omega
      obtain ⟨ad, rfl, hc, hmy⟩ := Kd.nat_cell HX.out (i := j) hj
      have hadw := World.block_lt_of_cell? _ _ hc
      have hcw := hfr.cell hc hadw
      obtain ⟨x, hx⟩ : ∃ x, x = m * DB + xs[j] := ⟨_, rfl⟩
      have hst := hN.step hj hxd hx
      have hlen := hN.len
      have hr := hN.rest
      obtain ⟨y, hy⟩ : ∃ y, y = xs[j] := ⟨_, rfl⟩
      rw [← hy] at hx hc hmy hcw
      have hxi : (m : Int) * 10000 + (y : Int) = (x : Int) := by unfold DB at hx; omega
      obtain ⟨uq, hcell⟩ : ∃ u, wr.cell? ⟨w.heap.size, j, none⟩ = some u := ⟨_, hrow.cell (j := j) (by omega)⟩
      have hfree := hrow.free j
      have hrlt := hrow.lt
      have hy' : y < 10000 := hmy
      have hidx : ((j + 1 : Nat) : Int) - 1 = (j : Int) := by omega
      rw [hidx]
      have HST := Lib.hid hst
      have HY := Lib.hid (And.intro hy hx)
      have HQ := Lib.hid hlen
      clear hst hidx hy hx hlen
      go_wp2_with fail
      have hq := HST.out.1
      have hw : wrap64 ((x : Int) / (d : Int)) = ((x / d : Nat) : Int) := by
        rw [← Int.natCast_ediv]
        unfold DB at hq
        generalize x / d = q at hq
        unfold wrap64; omega
      rw [hw]
      go_roundw
      case rel =>
        exact ⟨j, x % d, _, by omega, by go_num, by rw [Int.natCast_emod], HST.out.2, hrow.set j (x / d), hfr.setCell (fun h => by simp at h) _⟩
      case measure => first | (simp [intOf]; done) | (simp [intOf]; omega)
    · obtain rfl : k = 0 := by omega
      have hown := hrow.own (S := fun k => w.heap.size ≤ k) (Nat.le_refl _) hN.small (by rw [hN.len]; exact hxl)
      rw [hN.len] at hown
      have hsum := hN.sum
      have hrest := hN.rest
      rw [List.drop_zero, List.drop_zero, HV.out] at hsum
      have e1 : N / d = ofB DB qs := by rw [hsum, Nat.mul_add_div hd, Nat.div_eq_of_lt hrest, Nat.add_zero]
      have e2 : N % d = m := by rw [hsum, Nat.mul_add_mod, Nat.mod_eq_of_lt hrest]
      have HE := Lib.hid (And.intro e1 e2)
      have HO := Lib.hid hown
      clear hsum e1 e2 hown
      go_wp2_with fail
      refine (rtrim_calls wr _ qs HO.out).mono ?_
      rintro e w2 ⟨v, rfl, hv, rfl⟩
      rw [← HE.out.1] at hv
      go_wp2_with fail
      go_ret2
      exact ⟨_, congrArg (fun n : Nat => Ending.returned (.tuple #[v, .int .i64 (n : Int)])) HE.out.2.symm, .of hv (Nat.lt_of_le_of_lt (Nat.div_le_self _ _) hlt), hfr⟩

/-- the row answered to what came in: half -/
theorem short_2 {S : Nat → Prop} (w : World) (va : Value) (N L : Nat) (ha : RC S w va N L) (hl : L ≤ 1099511627000) :
    Calls Tryz.prog 112 #[va, .int .i64 2] w fun e w' => ∃ v, e = .returned (.tuple #[v, .int .i64 ((N % 2 : Nat) : Int)]) ∧ RC (fun k => w.heap.size ≤ k) w' v (N / 2) L ∧ Fr (fun k => k < w.heap.size) w w' :=
  short_r w va N L 2 ha hl (by decide) (by decide)

theorem blen_le {n L : Nat} (h : n < DB ^ L) : blen n ≤ 14 * L := dg_len_le (by decide) (by
  rw [Nat.pow_mul]
  exact Nat.lt_of_lt_of_le h (Nat.pow_le_pow_left (by decide) L))

theorem short_odd {S : Nat → Prop} (w : World) (va : Value) (N L : Nat) (ha : RC S w va N L) (hl : L ≤ 1099511627000) (h : N % 2 = 1) :
    Calls Tryz.prog 112 #[va, .int .i64 2] w fun e w' => ∃ v, e = .returned (.tuple #[v, .int .i64 1]) ∧ RC (fun k => w.heap.size ≤ k) w' v (N / 2) L ∧ Fr (fun k => k < w.heap.size) w w' := by
  have := short_2 w va N L ha hl
  rw [h] at this
  exact this
theorem short_even {S : Nat → Prop} (w : World) (va : Value) (N L : Nat) (ha : RC S w va N L) (hl : L ≤ 1099511627000) (h : N % 2 = 0) :
    Calls Tryz.prog 112 #[va, .int .i64 2] w fun e w' => ∃ v, e = .returned (.tuple #[v, .int .i64 0]) ∧ RC (fun k => w.heap.size ≤ k) w' v (N / 2) L ∧ Fr (fun k => k < w.heap.size) w w' := by
  have := short_2 w va N L ha hl
  rw [h] at this
  exact this

end Go.Proofs.YtlppcfeimpcbjaaGreat


/- NatBits, NatShifts. -/
namespace Go.Proofs.YtlppcfeimpcbjaaGreat
open Go.RowKit

theorem bits_n {S : Nat → Prop} (w : World) (va : Value) (N L : Nat) (ha : Num S w va N L) (hl : L ≤ 1099511627000) :
    Calls Tryz.prog 131 #[va] w fun e w' => e = .returned (.int .i64 (blen N : Int)) ∧ w' = w := by
  obtain ⟨xs, a1, rfl, a3⟩ := ha
  exact bits_calls w va xs a1 (by omega)
set_option exponentiation.threshold 700 in
theorem shl_n {S : Nat → Prop} (w : World) (va : Value) (N L : Nat) (n : Int) (ha : Num S w va N L) (hn : n ≤ 600) (hl : L ≤ 549755813000) :
    Calls Tryz.prog 160 #[va, .int .i64 n] w fun e w' => ∃ v, e = .returned v ∧ Can (fun k => w.heap.size ≤ k) w' v (N * 2 ^ n.toNat) (L + 19) ∧ Fr (fun k => k < w.heap.size) w w' := by
  have hlt := ha.lt
  obtain ⟨xs, a1, rfl, a3⟩ := ha
  refine (shl_calls w va xs n a1 (by omega) (by omega)).mono ?_
  rintro e w' ⟨v, rfl, h, hf⟩
  refine ⟨v, rfl, .of h ?_, hf⟩
  rw [Nat.pow_add]
  refine Nat.mul_lt_mul_of_lt_of_le hlt ?_ (Nat.pow_pos LBpos)
  rw [LB_pow]
  exact Nat.pow_le_pow_right (by decide) (by omega)
theorem shr_n {S : Nat → Prop} (w : World) (va : Value) (N L : Nat) (n : Int) (ha : Num S w va N L) (hn : n ≤ 600) (hl : L ≤ 549755813000) :
    Calls Tryz.prog 164 #[va, .int .i64 n] w fun e w' => ∃ v, e = .returned v ∧ Can (fun k => w.heap.size ≤ k) w' v (N / 2 ^ n.toNat) L ∧ Fr (fun k => k < w.heap.size) w w' := by
  have hlt := ha.lt
  obtain ⟨xs, a1, rfl, a3⟩ := ha
  refine (shr_calls w va xs n a1 (by omega) (by omega)).mono ?_
  rintro e w' ⟨v, rfl, h, hf⟩
  exact ⟨v, rfl, .of h (Nat.lt_of_le_of_lt (Nat.div_le_self _ _) hlt), hf⟩

theorem bitAt_top {N k : Nat} (h1 : 2 ^ k ≤ N) (h2 : N < 2 ^ (k + 1)) : bitAt N ((k + 1 : Nat) - 1 : Int) = true := by
  unfold bitAt
  have e : ((k + 1 : Nat) - 1 : Int).toNat = k := by omega
  have e2 : N / 2 ^ k = 1 := by
    have a1 : N / 2 ^ k < 2 := Nat.div_lt_of_lt_mul (by rw [Nat.pow_succ] at h2; omega)
    have a2 : 0 < N / 2 ^ k := Nat.div_pos h1 (Nat.pow_pos (by decide))
    omega
  rw [e, e2]
  exact decide_eq_true ⟨by omega, rfl⟩
theorem bitAt_over {N k : Nat} (h : N < 2 ^ k) {i : Int} (hi : (k : Int) ≤ i) : bitAt N i = false := by
  unfold bitAt
  have : N < 2 ^ i.toNat := Nat.lt_of_lt_of_le h (Nat.pow_le_pow_right (by decide) (by omega))
  rw [Nat.div_eq_of_lt this]
  simp
theorem bitAt_low {N : Nat} {i : Int} (hi : i < 0) : bitAt N i = false := decide_eq_false fun h => by omega
theorem bitAt_nat (N n : Nat) : bitAt N (n : Int) = decide (N / 2 ^ n % 2 = 1) := by
  unfold bitAt; simp
theorem lt_blen (N : Nat) : N < 2 ^ blen N := lt_pow_dg (by decide) N

theorem shift_back {a m : Nat} {i : Int} (h : m = i.toNat) : a * 2 ^ m / 2 ^ i.toNat = a := by
  rw [← h]; exact Nat.mul_div_cancel _ (Nat.pow_pos (by decide))

end Go.Proofs.YtlppcfeimpcbjaaGreat


/- NatOf. -/
namespace Go.Proofs.YtlppcfeimpcbjaaGreat
open Go.RowKit

theorem of_n (w : World) (n : Nat) (hn : n < 18446744073709551616) :
    Calls Tryz.prog 135 #[.int .u64 n] w fun e w' => ∃ v, e = .returned v ∧ Can (fun k => w.heap.size ≤ k) w' v n 2 ∧ Fr (fun k => k < w.heap.size) w w' := by
  refine (of_calls w n hn).mono ?_
  rintro e w' ⟨v, rfl, h, hf⟩
  exact ⟨v, rfl, .of h (by unfold LB; simpa using hn), hf⟩
theorem blen_64 (a : Nat) : blen a ≤ 64 ↔ a < 18446744073709551616 := by
  constructor
  · intro h
    exact Nat.lt_of_lt_of_le (lt_blen a) (Nat.pow_le_pow_right (n := 2) (by decide) h)
  · intro h
    exact dg_len_le (by decide) (by simpa using h)

end Go.Proofs.YtlppcfeimpcbjaaGreat
