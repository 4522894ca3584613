
/- The reference's Cmp; Canonical, Is. -/
import Derived.Test.YtodpbkcdcchljaaRefB
namespace Go.Proofs.Ytodpbkcdcchljaa
open Go.RowKit

theorem ofB_less {b : Nat} {xs ys : List Nat} {i : Nat} (hb : 0 < b) (hx : ∀ d ∈ xs, d < b) (hlen : xs.length = ys.length) (hi : i < ys.length) (he : ∀ j, i < j → j < xs.length → xs.getD j 0 = ys.getD j 0) (hl : xs.getD i 0 < ys.getD i 0) : ofB b xs < ofB b ys := by
  rw [← sumTo_all b xs xs.length (Nat.le_refl _), ← sumTo_all b ys xs.length (by omega)]
  refine sumTo_less (by omega) (fun j => ?_) he hl
  rw [List.getD_eq_getElem?_getD]
  cases hx' : xs[j]? with
  | none => exact hb
  | some d => exact hx d (List.mem_of_getElem? hx')
theorem dg_len_mono {b : Nat} (hb : 2 ≤ b) {m n : Nat} (h : m ≤ n) : (dg b m).length ≤ (dg b n).length := dg_len_le hb (Nat.lt_of_le_of_lt h (lt_pow_dg hb n))
theorem getD_at {l : List Nat} {j : Nat} (h : j < l.length) : l.getD j 0 = l[j] := by rw [List.getD_eq_getElem?_getD, List.getElem?_eq_getElem h]; rfl

set_option maxHeartbeats 1000000 in
theorem cmp_r {S T : Nat → Prop} (w : World) (va vb : Value) (M N L K : Nat) (ha : RC S w va M L) (hb : RC T w vb N K) :
    Calls Try.prog 63 #[va, vb] w fun e w' => e = .returned (.int .i64 (cmpN M N)) ∧ Fr (fun _ => True) w w' := by
  have hs := ha.sl
  have hs' := hb.sl
  have hxd := Kd.nat_all hs
  have hyd := Kd.nat_all hs'
  have hm := val_dd M
  have hn := val_dd N
  have hmono := @dg_len_mono DB DB2 M N
  have hmono' := @dg_len_mono DB DB2 N M
  generalize dg DB M = xs at hs hxd hm hmono hmono'
  generalize dg DB N = ys at hs' hyd hn hmono hmono'
  clear ha hb
  obtain ⟨A, c, rfl, _, _, hlx⟩ := hs.slice
  obtain ⟨A', c', rfl, _, _, hly⟩ := hs'.slice
  obtain ⟨r, hr⟩ : ∃ r, r = cmpN M N := ⟨_, rfl⟩
  rw [← hr]
  have h1 : M < N → r = -1 := fun h => by rw [hr, cmpN, if_pos h]
  have h2 : N < M → r = 1 := fun h => by rw [hr, cmpN, if_neg (by omega), if_pos h]
  have h3 : M = N → r = 0 := fun h => by rw [hr, cmpN, if_neg (by omega), if_neg (by omega)]
  have HR := Lib.hid (And.intro h1 (And.intro h2 h3))
  have HX := Lib.hid hs
  have HY := Lib.hid hs'
  have HV := Lib.hid (And.intro hm hn)
  clear hs hs' hr h1 h2 h3 hm hn
  by_cases hll : xs.length = ys.length
  · have hb2 : ((xs.length : Int) == (ys.length : Int)) = true := by rw [hll]; simp
    have HLL := Lib.hid hll
    clear hll
    go_enter Try.func63, Try.ntmps63
    go_wp2
    clear hb2
    go_loopw [5] (fun i wr => ∃ (k : Nat), k ≤ xs.length ∧ i = .int .i64 ((k : Int) - 1) ∧ Fr (fun _ => True) w wr ∧ Hid (∀ j, k ≤ j → j < xs.length → xs.getD j 0 = ys.getD j 0)) (fun i _ => (intOf i + 1).toNat)
    case atStart => exact ⟨xs.length, Nat.le_refl _, rfl, Fr.refl _ _, fun j h1 h2 => by omega⟩
    case round =>
      have hll := HLL.out
      obtain ⟨k, hk, rfl, HW, hz⟩ := hrel
      by_cases h0 : 0 < k
      · obtain ⟨j, rfl⟩ : ∃ j, k = j + 1 := ⟨k - 1, by omega⟩
        obtain ⟨ad, rfl, hc, hm⟩ := Kd.nat_cell HX.out (i := j) (by omega)
        obtain ⟨ad', rfl, hc', hm'⟩ := Kd.nat_cell HY.out (i := j) (by omega)
        have e1 := getD_at (l := xs) (j := j) (by omega)
        have e2 := getD_at (l := ys) (j := j) (by omega)
        have hidx : ((j + 1 : Nat) : Int) - 1 = (j : Int) := by omega
        rw [hidx]
        generalize xs[j] = X at hc hm e1
        generalize ys[j] = Y at hc' hm' e2
        have hlt : X < Y → M < N := fun h => by
          have := ofB_less DBpos hxd hll (i := j) (by omega) (fun i a b => hz.out i a b) (by omega)
          rwa [HV.out.1, HV.out.2] at this
        have hgt : Y < X → N < M := fun h => by
          have := ofB_less DBpos hyd hll.symm (i := j) (by omega) (fun i a b => (hz.out i a (by omega)).symm) (by omega)
          rwa [HV.out.1, HV.out.2] at this
        have HG := Lib.hid (And.intro hlt hgt)
        have HE := Lib.hid (And.intro e1 e2)
        clear hidx hlt hgt e1 e2
        have hcw : wr.cell? (ad.add j) = some (.int .i64 X) := HW.cell hc trivial
        have hcw' : wr.cell? (ad'.add j) = some (.int .i64 Y) := HW.cell hc' trivial
        have hj1 : j < xs.length := by omega
        have hj2 : j < ys.length := by omega
        clear hll hc hc'
        rcases Nat.lt_trichotomy X Y with h | h | h
        · go_wp2
          go_quiet (fail)
          go_wp2
          go_ret
          exact ⟨congrArg (fun n : Int => Ending.returned (.int .i64 n)) (HR.out.1 (HG.out.1 h)).symm, HW.drewN _⟩
        · subst h
          go_wp2
          go_quiet (fail)
          go_wp2
          go_quiet (fail)
          go_wp2
          go_roundw
          case rel =>
            refine ⟨j, by omega, by go_num, HW.drewN _, fun i a b => ?_⟩
            by_cases hij : i = j
            · subst hij; rw [HE.out.1, HE.out.2]
            · exact hz.out i (by omega) b
          case measure => first | (simp [intOf]; done) | (simp [intOf]; omega)
        · go_wp2
          go_quiet (fail)
          go_wp2
          go_quiet (fail)
          go_wp2
          go_ret
          exact ⟨congrArg (fun n : Int => Ending.returned (.int .i64 n)) (HR.out.2.1 (HG.out.2 h)).symm, (HW.drewN _).drewN _⟩
      · obtain rfl : k = 0 := by omega
        have e : M = N := by
          rw [← HV.out.1, ← HV.out.2, ← sumTo_all DB xs xs.length (Nat.le_refl _), ← sumTo_all DB ys xs.length (by omega)]
          exact sumTo_congr fun i hi => hz.out i (Nat.zero_le _) hi
        have E := Lib.hid e
        clear e
        go_wp2
        go_ret
        exact ⟨congrArg (fun n : Int => Ending.returned (.int .i64 n)) (HR.out.2.2 E.out).symm, HW⟩
  · have hb2 : ((xs.length : Int) == (ys.length : Int)) = false := beq_eq_false_iff_ne.2 (by omega)
    rcases Nat.lt_or_ge xs.length ys.length with h | h
    · have E := Lib.hid (show M < N from by omega)
      go_enter Try.func63, Try.ntmps63
      go_wp2
      go_ret
      exact ⟨congrArg (fun n : Int => Ending.returned (.int .i64 n)) (HR.out.1 E.out).symm, Fr.refl _ _⟩
    · have E := Lib.hid (show N < M from by omega)
      go_enter Try.func63, Try.ntmps63
      go_wp2
      go_ret
      exact ⟨congrArg (fun n : Int => Ending.returned (.int .i64 n)) (HR.out.2.1 E.out).symm, Fr.refl _ _⟩

theorem canonical_calls {S : Nat → Prop} (w : World) (v : Value) (N L : Nat) (h : Can S w v N L) :
    Calls Try.prog 73 #[v] w fun e w' => e = .returned (.bool true) ∧ w' = w := by
  have hs := h.sl
  have hlast := dg_last LB2 N
  generalize dg LB N = xs at hs hlast
  clear h
  obtain ⟨A, c, rfl, _, _, hlx⟩ := hs.slice
  by_cases h0 : xs.length = 0
  · rw [h0]
    clear hs hlast
    go_enter Try.func73, Try.ntmps73
    go_wp2
    go_ret
    exact ⟨rfl, rfl⟩
  · obtain ⟨ad, rfl, hc, hm⟩ := Kd.nat_cell hs (i := xs.length - 1) (by omega)
    have hx := hlast (xs[xs.length - 1]'(by omega)) (by rw [List.getLast?_eq_getElem?, List.getElem?_eq_getElem])
    generalize xs[xs.length - 1]'(by omega) = X at hx hc hm
    have hb : ((X : Int) == 0) = false := beq_eq_false_iff_ne.2 (by omega)
    have hb2 : ((xs.length : Int) == 0) = false := beq_eq_false_iff_ne.2 (by omega)
    have hb3 : ((X : Int) != 0) = true := by rw [bne, hb]; rfl
    have HB := Lib.hid hb3
    clear hs hlast hb3 hb
    go_enter Try.func73, Try.ntmps73
    go_wp2
    go_ret
    exact ⟨congrArg (fun b : Bool => Ending.returned (.bool b)) HB.out, rfl⟩

theorem is_n {S T : Nat → Prop} (w : World) (vr v : Value) (M N L K : Nat) (hr : RC S w vr M K) (h : Can T w v N L) (hL : L ≤ 1099511620) (he : M = N) :
    Calls Try.prog 49 #[vr, v] w fun e w' => e = .returned (.bool true) ∧ Fr (fun k => k < w.heap.size) w w' := by
  subst he
  have hcmp : cmpN M M = 0 := by unfold cmpN; simp
  have HC := Lib.hid hcmp
  clear hcmp
  go_enter Try.func49, Try.ntmps49
  go_wp2_with fail
  refine (canonical_calls _ _ _ _ h).mono ?_
  rintro e w' ⟨rfl, rfl⟩
  go_wp2_with fail
  refine (of_r _ _ _ _ h.num hL).mono ?_
  rintro e w1 ⟨v1, rfl, h1, hf⟩
  go_wp2_with fail
  refine (cmp_r _ _ _ _ _ _ _ h1 (hr.keep hf)).mono ?_
  rintro e w2 ⟨rfl, hf2⟩
  rw [HC.out]
  go_wp2_with fail
  go_ret
  exact ⟨rfl, fr_then hf (hf2.mono fun _ _ _ => trivial)⟩
end Go.Proofs.Ytodpbkcdcchljaa
