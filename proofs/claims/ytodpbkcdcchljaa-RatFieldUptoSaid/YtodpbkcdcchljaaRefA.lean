
/- The reference's numbers (fluxionref01), digits of 10000: digit, Add, Small, trim, Times. -/
import Derived.Test.YtodpbkcdcchljaaNatG
namespace Go.Proofs.Ytodpbkcdcchljaa
open Go.RowKit

/-- what a digit is below -/
def DB : Nat := 10000
theorem DB2 : 2 ≤ DB := by decide
theorem DBpos : 0 < DB := by decide
/-- digits -/
def Dg : Kd Nat := Kd.nat .i64 DB
theorem Dg_pos : 0 < Dg.size := by decide
theorem info_int : (Try.prog.info? 3).map (fun i => (i.zero, i.size, i.bytes)) = some (some (.int .i64 0), 1, 8) := by kernel_rfl
theorem dgT : ElemT Try.prog Dg 32 3 8 := .mk' (.int .i64 0) Try.underlying32 (by decide) info_int rfl

set_option maxHeartbeats 400000 in
theorem digit_calls {S : Nat → Prop} (w : World) (v : Value) (xs : List Nat) (i : Nat) (h : Sl Dg S w v xs) :
    Calls Try.prog 78 #[v, .int .i64 i] w fun e w' => e = .returned (.int .i64 (xs.getD i 0 : Nat)) ∧ w' = w := by
  obtain ⟨A, c, rfl, hcap, hmax, hlen⟩ := h.slice
  by_cases h1 : i < xs.length
  · obtain ⟨ad, rfl, hx, hlt⟩ := Kd.nat_cell h (i := i) h1
    have hgd : xs.getD i 0 = xs[i] := by rw [List.getD_eq_getElem?_getD, List.getElem?_eq_getElem h1]; rfl
    have HG := Lib.hid hgd
    clear hgd h
    go_enter Try.func78, Try.ntmps78
    go_wp2
    go_ret
    exact ⟨congrArg (fun n : Nat => Ending.returned (.int .i64 (n : Int))) HG.out.symm, rfl⟩
  · have hgd : xs.getD i 0 = 0 := by rw [List.getD_eq_getElem?_getD, List.getElem?_eq_none (by omega)]; rfl
    have HG := Lib.hid hgd
    clear hgd h
    go_enter Try.func78, Try.ntmps78
    go_wp2
    go_ret
    exact ⟨congrArg (fun n : Nat => Ending.returned (.int .i64 (n : Int))) HG.out.symm, rfl⟩
theorem digit_lt {xs : List Nat} (h : ∀ d ∈ xs, d < DB) (i : Nat) : xs.getD i 0 < DB := by
  rw [List.getD_eq_getElem?_getD]
  cases hx : xs[i]? with
  | none => exact DBpos
  | some d => exact h d (List.mem_of_getElem? hx)

/-- Digits as many as the number needs are its digits. -/
theorem dg_long {b : Nat} (hb : 2 ≤ b) {l : List Nat} (h : ∀ d ∈ l, d < b) (hl : l = [] ∨ b ^ (l.length - 1) ≤ ofB b l) : l = dg b (ofB b l) := by
  have ht := dg_top' hb h
  rcases hl with rfl | hl
  · simp [ofB, dg_zero]
  · have h1 := lt_pow_dg hb (ofB b l)
    have h2 : l.length ≤ (dg b (ofB b l)).length := by
      rcases Nat.lt_or_ge (dg b (ofB b l)).length l.length with hlt | hge
      · have := Nat.pow_le_pow_right (n := b) (by omega) (show (dg b (ofB b l)).length ≤ l.length - 1 by omega)
        omega
      · exact hge
    rw [List.take_of_length_le h2] at ht
    exact ht.symm

/-- What has been put, and the carry: the sum so far. -/
structure AddN (xs ys : List Nat) (i : Nat) (ds : List Nat) (c : Nat) : Prop where
  len : ds.length = i
  small : ∀ d ∈ ds, d < DB
  carry : c ≤ 1
  sum : ofB DB ds + DB ^ i * c = sumTo DB (fun j => xs.getD j 0 + ys.getD j 0) i
  long : i ≤ max xs.length ys.length ∨ DB ^ (i - 1) ≤ ofB DB xs + ofB DB ys
theorem AddN.step {xs ys : List Nat} {i : Nat} {ds : List Nat} {c d : Nat} (h : AddN xs ys i ds c) (hx : ∀ d ∈ xs, d < DB) (hy : ∀ d ∈ ys, d < DB) (hd : d = xs.getD i 0 + ys.getD i 0 + c) (hgo : i < xs.length ∨ i < ys.length ∨ 0 < c) :
    AddN xs ys (i + 1) (ds ++ [d % DB]) (d / DB) := by
  obtain ⟨h1, h2, h3, h4, h5⟩ := h
  have a1 := digit_lt hx i
  have a2 := digit_lt hy i
  refine ⟨by simp [h1], ?_, ?_, ?_, ?_⟩
  · intro x hx'
    rcases List.mem_append.1 hx' with hm | hm
    · exact h2 x hm
    · simp at hm; subst hm; exact Nat.mod_lt _ DBpos
  · have : d / DB < 2 := Nat.div_lt_of_lt_mul (by omega)
    omega
  · have e := Nat.mod_add_div d DB
    rw [ofB_snoc, sumTo, h1, ← h4, Nat.pow_succ, Nat.add_assoc, Nat.add_assoc, Nat.mul_assoc, ← Nat.mul_add, ← Nat.mul_add, e, hd]
    congr 2; omega
  · rcases Nat.lt_or_ge i (max xs.length ys.length) with hlt | hge
    · exact .inl hlt
    · right
      have hc : 1 ≤ c := by omega
      rw [sumTo_add, sumTo_all _ _ _ (by omega), sumTo_all _ _ _ (by omega)] at h4
      have : DB ^ i * 1 ≤ DB ^ i * c := Nat.mul_le_mul_left _ hc
      rw [Nat.add_sub_cancel]
      omega
theorem AddN.done {m n : Nat} {i : Nat} {ds : List Nat} (h : AddN (dg DB m) (dg DB n) i ds 0) (h1 : (dg DB m).length ≤ i) (h2 : (dg DB n).length ≤ i) : ds = dg DB (m + n) := by
  obtain ⟨a1, a2, a3, a4, a5⟩ := h
  rw [sumTo_add, sumTo_all _ _ _ h1, sumTo_all _ _ _ h2, ofB_dg DB2, ofB_dg DB2, Nat.mul_zero, Nat.add_zero] at a4
  rw [ofB_dg DB2, ofB_dg DB2] at a5
  have hl : ds = dg DB (ofB DB ds) := by
    refine dg_long DB2 a2 ?_
    rcases Nat.eq_zero_or_pos i with rfl | hp
    · exact .inl (List.eq_nil_of_length_eq_zero a1)
    · right
      rw [a4, a1]
      rcases a5 with h5 | h5
      · rcases Nat.lt_or_ge (dg DB m).length i with hm | hm
        · have := pow_le_of_dg DB2 (n := n) (k := i - 1) (by omega); omega
        · have := pow_le_of_dg DB2 (n := m) (k := i - 1) (by omega); omega
      · exact h5
  rw [hl, a4]

set_option maxHeartbeats 1000000 in
theorem radd_calls {S T : Nat → Prop} (w : World) (va vb : Value) (m n : Nat) (ha : Sl Dg S w va (dg DB m)) (hb : Sl Dg T w vb (dg DB n)) (hm : (dg DB m).length ≤ 1099511627000) (hn : (dg DB n).length ≤ 1099511627000) :
    Calls Try.prog 55 #[va, vb] w fun e w' => ∃ v, e = .returned v ∧ Own Dg 3 (fun k => w.heap.size ≤ k) w' v (dg DB (m + n)) ∧ Fr (fun k => k < w.heap.size) w w' := by
  have hxd := Kd.nat_all ha
  have hyd := Kd.nat_all hb
  generalize hxs : dg DB m = xs at *
  generalize hys : dg DB n = ys at *
  have HX := Lib.hid hxs
  have HY := Lib.hid hys
  obtain ⟨A, c, rfl, _, _, hlx⟩ := ha.slice
  obtain ⟨A', c', rfl, _, _, hly⟩ := hb.slice
  have HA := Lib.hid (ha.up Dg_pos (Nat.le_refl _) (Fr.refl _ _))
  have HB := Lib.hid (hb.up Dg_pos (Nat.le_refl _) (Fr.refl _ _))
  clear ha hb hxs hys
  go_enter Try.func55, Try.ntmps55
  go_wp2_with fail
  go_loopw [5, 6, 7] (fun o c i wr => ∃ (j k : Nat) (ds : List Nat), c = .int .i64 k ∧ i = .int .i64 j ∧ AddN xs ys j ds k ∧ (j ≤ max xs.length ys.length ∨ j = max xs.length ys.length + 1 ∧ k = 0) ∧ Own Dg 3 (fun k => w.heap.size ≤ k) wr o ds ∧ Fr (fun k => k < w.heap.size) w wr) (fun _ c i _ => 2 * (max xs.length ys.length + 1 - (intOf i).toNat) + (intOf c).toNat)
  case atStart => exact ⟨0, 0, [], rfl, rfl, ⟨rfl, by simp, by omega, rfl, .inl (by omega)⟩, .inl (by omega), Own.nil _ _ _ _, Fr.refl _ _⟩
  case round =>
    obtain ⟨j, k, ds, rfl, rfl, hN, hj, ho, hfr⟩ := hrel
    have hsa := HA.out.fr hfr
    have hsb := HB.out.fr hfr
    by_cases hgo : j < xs.length ∨ j < ys.length ∨ 0 < k
    · obtain ⟨d, hd⟩ : ∃ d, d = xs.getD j 0 + ys.getD j 0 + k := ⟨_, rfl⟩
      have hstep := hN.step hxd hyd hd hgo
      have a1 := digit_lt hxd j
      have a2 := digit_lt hyd j
      have hk1 := hN.carry
      have hlen := hN.len
      have p1 := digit_calls wr _ xs j hsa
      have p2 := digit_calls wr _ ys j hsb
      have z1 : xs.length ≤ j → xs.getD j 0 = 0 := fun h => by rw [List.getD_eq_getElem?_getD, List.getElem?_eq_none h]; rfl
      have z2 : ys.length ≤ j → ys.getD j 0 = 0 := fun h => by rw [List.getD_eq_getElem?_getD, List.getElem?_eq_none h]; rfl
      have hsum : ((xs.getD j 0 : Nat) : Int) + ((ys.getD j 0 : Nat) : Int) + (k : Int) = (d : Int) := by omega
      have hd2 : d < 20000 := by unfold DB at a1 a2; omega
      generalize xs.getD j 0 = X at p1 hsum a1 z1
      generalize ys.getD j 0 = Y at p2 hsum a2 z2
      have a1' : X < 10000 := a1
      have a2' : Y < 10000 := a2
      have P1 := Lib.hid p1
      have P2 := Lib.hid p2
      have HL := Lib.hid hlen
      have HZ := Lib.hid (show (j + 1 ≤ max xs.length ys.length ∨ j + 1 = max xs.length ys.length + 1 ∧ d / DB = 0) ∧ 2 * (max xs.length ys.length + 1 - (j + 1)) + d / 10000 < 2 * (max xs.length ys.length + 1 - j) + k from by unfold DB; omega)
      clear p1 p2 hd hlen z1 z2
      have hrd : Dg.rd (fun _ => False) wr (d % DB) [.int .i64 ((d : Int) % 10000)] := ⟨by simp [DB], Nat.mod_lt _ DBpos⟩
      have HR := Lib.hid hrd
      clear hrd
      go_wp2_with (first
        | ((with_reducible refine P1.out.mono ?_); rintro e w' ⟨rfl, rfl⟩)
        | ((with_reducible refine P2.out.mono ?_); rintro e w' ⟨rfl, rfl⟩)
        | (at_builtin; refine wpList_push1 (v := u5) dgT rfl rfl rfl rfl ho HR.out (fun _ h => h.elim) (fun k hk => by have := hfr.size; omega) (by rw [HL.out]; omega) (by rw [HL.out]; omega) ?_; intro v' w1 hown hfr1 hat))
      all_goals exact ⟨⟨j + 1, d / DB, _, by simp [DB], by go_num, hstep, HZ.out.1, hown, hfr.push ho hfr1 (fun k hk _ => by omega)⟩, by have := HZ.out.2; simp [intOf]; omega⟩
    · have h1 : xs.length ≤ j := by omega
      have h2 : ys.length ≤ j := by omega
      obtain rfl : k = 0 := by omega
      go_wp2_with fail
      go_ret
      have hx := HX.out
      have hy := HY.out
      subst hx
      subst hy
      rw [hN.done h1 h2] at ho
      exact ⟨_, rfl, ho, hfr⟩

/-- what a number's digits come to, and how many they are -/
theorem val_dd (n : Nat) : ofB DB (dg DB n) = n := ofB_dg DB2 n

set_option maxHeartbeats 400000 in
theorem small_calls (w : World) (n : Nat) (hn : n < 9223372036854775808) :
    Calls Try.prog 57 #[.int .i64 n] w fun e w' => ∃ v, e = .returned v ∧ Own Dg 3 (fun k => w.heap.size ≤ k) w' v (dg DB n) ∧ Fr (fun k => k < w.heap.size) w w' := by
  go_enter Try.func57, Try.ntmps57
  go_wp2_with fail
  go_loopw [0, 3] (fun i o wr => ∃ (m : Nat) (ds : List Nat), i = .int .i64 m ∧ m ≤ n ∧ ds ++ dg DB m = dg DB n ∧ Own Dg 3 (fun k => w.heap.size ≤ k) wr o ds ∧ Fr (fun k => k < w.heap.size) w wr) (fun i _ _ => (intOf i).toNat)
  case atStart => exact ⟨n, [], rfl, Nat.le_refl _, rfl, Own.nil _ _ _ _, Fr.refl _ _⟩
  case round =>
    obtain ⟨m, ds, rfl, hmn, hd, ho, hfr⟩ := hrel
    by_cases h0 : 0 < m
    · have hl5 : ds.length ≤ 5 := by
        have h1 := congrArg List.length hd
        have h2 : (dg DB n).length ≤ 5 := dg_len_le DB2 (Nat.lt_of_lt_of_le hn (by decide))
        rw [List.length_append] at h1; omega
      rw [dg_pos DB2 h0] at hd
      have hrd : Dg.rd (fun _ => False) wr (m % DB) [.int .i64 ((m : Int) % 10000)] := ⟨by simp [DB], Nat.mod_lt _ DBpos⟩
      have HR := Lib.hid hrd
      have HD := Lib.hid hd
      clear hrd hd
      go_wp2_with (at_builtin; refine wpList_push1 (v := u3) dgT rfl rfl rfl rfl ho HR.out (fun _ h => h.elim) (fun k hk => by have := hfr.size; omega) (by omega) (by omega) ?_; intro v' w1 hown hfr1 hat)
      go_roundw
      case rel => exact ⟨m / DB, _, by simp [DB], Nat.le_trans (Nat.div_le_self _ _) hmn, by rw [List.append_assoc]; exact HD.out, hown, hfr.push ho hfr1 (fun k hk _ => by omega)⟩
      case measure => simp [intOf]; omega
    · obtain rfl : m = 0 := by omega
      rw [dg_zero, List.append_nil] at hd
      subst hd
      go_wp2_with fail
      go_ret
      exact ⟨_, rfl, ho, hfr⟩

set_option maxHeartbeats 400000 in
theorem rtrim_calls {S : Nat → Prop} (w : World) (v : Value) (xs : List Nat) (h : Own Dg 3 S w v xs) :
    Calls Try.prog 79 #[v] w fun e w' => ∃ v, e = .returned v ∧ Own Dg 3 S w v (dg DB (ofB DB xs)) ∧ w' = w := by
  have hs := h.sl
  have hd := Kd.nat_all hs
  obtain ⟨A, c, rfl, hcap, hmax, hlen⟩ := hs.slice
  have H := Lib.hid h
  have HS := Lib.hid hs
  clear h hs
  go_enter Try.func79, Try.ntmps79
  go_wp2
  go_loop [3] (fun n => ∃ k : Nat, k ≤ xs.length ∧ n = .int .i64 k ∧ Hid (∀ j, k ≤ j → j < xs.length → xs[j]? = some 0)) (fun n => (intOf n).toNat)
  case atStart => exact ⟨xs.length, Nat.le_refl _, rfl, fun j h1 h2 => by omega⟩
  case round =>
    obtain ⟨k, hk, rfl, hz⟩ := hrel
    have hkc : (k : Int) ≤ (c : Int) := by omega
    by_cases h0 : 0 < k
    · obtain ⟨ad, rfl, hx, _⟩ := Kd.nat_cell HS.out (i := k - 1) (by omega)
      by_cases hx0 : xs[k-1]'(by omega) = 0
      · rw [hx0] at hx
        have HX := Lib.hid hx0
        clear hx0
        go_wp2
        go_round
        case rel =>
          refine ⟨k - 1, by omega, by go_num, fun j h1 h2 => ?_⟩
          by_cases e : j = k - 1
          · subst e; rw [List.getElem?_eq_getElem h2, HX.out]
          · exact hz.out j (by omega) h2
        case measure => simp [intOf]; omega
      · have hb : (((xs[k-1]'(by omega) : Nat) : Int) == 0) = false := by simpa using hx0
        have HX := Lib.hid hx0
        clear hx0
        go_wp2
        go_ret
        have ht := dg_top DB2 hd hk hz.out (fun _ => by rw [List.getElem?_eq_getElem (by omega)]; simpa using HX.out)
        exact ⟨_, rfl, by rw [← ht.1]; exact H.out.take hk, rfl⟩
    · go_wp2
      go_ret
      have ht := dg_top DB2 hd hk hz.out (fun h => absurd h h0)
      exact ⟨_, rfl, by rw [← ht.1]; exact H.out.take hk, rfl⟩

structure TimesN (xs : List Nat) (m i : Nat) (ds : List Nat) (c : Nat) : Prop where
  len : ds.length = i
  small : ∀ d ∈ ds, d < DB
  carry : c ≤ m
  sum : ofB DB ds + DB ^ i * c = m * sumTo DB (fun j => xs.getD j 0) i
  room : i + c ≤ xs.length + m
theorem TimesN.step {xs : List Nat} {m i : Nat} {ds : List Nat} {c x : Nat} (h : TimesN xs m i ds c) (hx : ∀ d ∈ xs, d < DB) (hd : x = xs.getD i 0 * m + c) (hgo : i < xs.length ∨ 0 < c) :
    TimesN xs m (i + 1) (ds ++ [x % DB]) (x / DB) ∧ (xs.length - (i + 1)) * (m + 1) + x / DB < (xs.length - i) * (m + 1) + c := by
  obtain ⟨h1, h2, h3, h4, h5⟩ := h
  have a1 := digit_lt hx i
  have hc : x / DB ≤ m := by
    have : x / DB < m + 1 := Nat.div_lt_of_lt_mul (by
      have := Nat.mul_le_mul_right m (show xs.getD i 0 ≤ 9999 from by unfold DB at a1; omega)
      unfold DB; omega)
    omega
  have hz : xs.length ≤ i → x = c := fun h => by rw [hd, List.getD_eq_getElem?_getD, List.getElem?_eq_none h]; simp
  have hcd : xs.length ≤ i → x / DB < c := fun h => by
    rw [hz h]; exact Nat.div_lt_self (by omega) (by decide)
  refine ⟨⟨by simp [h1], ?_, hc, ?_, ?_⟩, ?_⟩
  · intro y hy
    rcases List.mem_append.1 hy with hm | hm
    · exact h2 y hm
    · simp at hm; subst hm; exact Nat.mod_lt _ DBpos
  · have e := Nat.mod_add_div x DB
    rw [ofB_snoc, sumTo, h1, Nat.mul_add, ← h4, Nat.pow_succ, Nat.add_assoc, Nat.add_assoc, Nat.mul_assoc, ← Nat.mul_add, e, hd, Nat.mul_add, Nat.add_comm (DB ^ i * c), ← Nat.add_assoc, ← Nat.add_assoc]
    congr 2
    ac_rfl
  · rcases Nat.lt_or_ge i xs.length with h | h
    · omega
    · have := hcd h; omega
  · rcases Nat.lt_or_ge i xs.length with h | h
    · have e : (xs.length - i) * (m + 1) = (xs.length - (i + 1)) * (m + 1) + (m + 1) := by
        rw [← Nat.succ_mul]; congr 1; omega
      omega
    · have := hcd h
      rw [show xs.length - (i + 1) = 0 from by omega, show xs.length - i = 0 from by omega]; omega

set_option maxHeartbeats 1000000 in
theorem times_calls {S : Nat → Prop} (w : World) (va : Value) (xs : List Nat) (m : Nat) (ha : Sl Dg S w va xs) (hm : m ≤ 4294967296) (hxl : xs.length ≤ 1099511627000) :
    Calls Try.prog 56 #[va, .int .i64 m] w fun e w' => ∃ v, e = .returned v ∧ Own Dg 3 (fun k => w.heap.size ≤ k) w' v (dg DB (ofB DB xs * m)) ∧ Fr (fun k => k < w.heap.size) w w' := by
  have hxd := Kd.nat_all ha
  obtain ⟨A, c, rfl, _, _, hlx⟩ := ha.slice
  have HA := Lib.hid (ha.up Dg_pos (Nat.le_refl _) (Fr.refl _ _))
  clear ha
  go_enter Try.func56, Try.ntmps56
  go_wp2_with fail
  go_loopw [5, 6, 7] (fun o c i wr => ∃ (j k : Nat) (ds : List Nat), c = .int .i64 k ∧ i = .int .i64 j ∧ TimesN xs m j ds k ∧ Own Dg 3 (fun k => w.heap.size ≤ k) wr o ds ∧ Fr (fun k => k < w.heap.size) w wr) (fun _ c i _ => (xs.length - (intOf i).toNat) * (m + 1) + (intOf c).toNat)
  case atStart => exact ⟨0, 0, [], rfl, rfl, ⟨rfl, by simp, by omega, rfl, by omega⟩, Own.nil _ _ _ _, Fr.refl _ _⟩
  case round =>
    obtain ⟨j, k, ds, rfl, rfl, hN, ho, hfr⟩ := hrel
    have hsa := HA.out.fr hfr
    have hlen := hN.len
    have hroom := hN.room
    have hk1 := hN.carry
    by_cases hgo : j < xs.length ∨ 0 < k
    · obtain ⟨x, hx⟩ : ∃ x, x = xs.getD j 0 * m + k := ⟨_, rfl⟩
      have hstep := hN.step hxd hx hgo
      have a1 := digit_lt hxd j
      have p1 := digit_calls wr _ xs j hsa
      generalize xs.getD j 0 = X at p1 hx a1
      have a1' : X < 10000 := a1
      have hp : X * m ≤ 9999 * 4294967296 := Nat.mul_le_mul (by omega) hm
      have hxl2 : x < 9223372036854775807 := by omega
      have P1 := Lib.hid p1
      have HL := Lib.hid hlen
      have HX := Lib.hid hx
      have HS := Lib.hid hstep
      have hrd : Dg.rd (fun _ => False) wr (x % DB) [.int .i64 (((X : Int) * (m : Int) + (k : Int)) % 10000)] := by
        rw [hx]; exact ⟨by simp [DB], Nat.mod_lt _ DBpos⟩
      have HR := Lib.hid hrd
      clear p1 hx hlen hstep hrd
      go_wp2_with (first
        | ((with_reducible refine P1.out.mono ?_); rintro e w' ⟨rfl, rfl⟩)
        | (at_builtin; refine wpList_push1 (v := u5) dgT rfl rfl rfl rfl ho HR.out (fun _ h => h.elim) (fun k hk => by have := hfr.size; omega) (by rw [HL.out]; omega) (by rw [HL.out]; omega) ?_; intro v' w1 hown hfr1 hat))
      all_goals
        refine ⟨⟨j + 1, x / DB, _, ?_, by go_num, HS.out.1, hown, hfr.push ho hfr1 (fun k hk _ => by omega)⟩, ?_⟩
        · have := HX.out
          subst this
          simp [DB]
        · have e : ((X : Int) * (m : Int) + (k : Int)) = (x : Int) := by have := HX.out; subst this; simp
          rw [e]
          have := HS.out.2
          unfold DB at this
          have e1 : ((j : Int) + 1).toNat = j + 1 := by omega
          have e2 : ((x : Int) / 10000).toNat = x / 10000 := by omega
          simpa only [intOf, e1, e2, Int.toNat_natCast] using this
    · obtain rfl : k = 0 := by omega
      have hj : xs.length ≤ j := by omega
      go_wp2_with fail
      refine (rtrim_calls wr _ ds ho).mono ?_
      rintro e w1 ⟨v, rfl, hv, rfl⟩
      have hs := hN.sum
      rw [sumTo_all _ _ _ hj, Nat.mul_zero, Nat.add_zero] at hs
      go_wp2_with fail
      go_ret
      exact ⟨_, rfl, by rw [Nat.mul_comm, ← hs]; exact hv, hfr⟩
end Go.Proofs.Ytodpbkcdcchljaa
