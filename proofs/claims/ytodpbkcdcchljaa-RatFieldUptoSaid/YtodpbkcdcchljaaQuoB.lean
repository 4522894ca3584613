
/- quo.guess. -/
import Derived.Test.YtodpbkcdcchljaaKnuth
import Derived.Test.YtodpbkcdcchljaaQuoA
import Derived.WalkMore
namespace Go.Proofs.Ytodpbkcdcchljaa
open Go.RowKit

set_option maxHeartbeats 2000000 in
theorem guess_calls {S T : Nat → Prop} (w : World) (vu vv : Value) (us vs : List Nat) (hu : Sl Lm S w vu us) (hv : Sl Lm T w vv vs) (hn : 2 ≤ vs.length) (hl : us.length = vs.length + 1)
    (htop : 2147483648 ≤ vs.getD (vs.length - 1) 0) (hlt : val us < LB * val vs) :
    Calls Try.prog 95 #[vu, vv] w fun e w' => (∃ g : Nat, e = .returned (.int .u64 g) ∧ val us / val vs ≤ g ∧ g ≤ val us / val vs + 1) ∧ Fr (fun _ => True) w w' := by
  have hud := Kd.nat_all hu
  have hvd := Kd.nat_all hv
  obtain ⟨hU1, hU2⟩ := limbs3 hn hl hud
  obtain ⟨hV1, hV2⟩ := limbs2 hn rfl hvd
  obtain ⟨A, c, rfl, _, _, hlx⟩ := hu.slice
  obtain ⟨A', c', rfl, _, _, hly⟩ := hv.slice
  obtain ⟨ad, rfl, hcn, hmn⟩ := Kd.nat_cell hu (i := vs.length) (by omega)
  obtain ⟨_, h1, hc1, hm1⟩ := Kd.nat_cell hu (i := vs.length - 1) (by omega)
  cases h1
  obtain ⟨_, h1, hc2, hm2⟩ := Kd.nat_cell hu (i := vs.length - 2) (by omega)
  cases h1
  obtain ⟨ad', rfl, hd1, hk1⟩ := Kd.nat_cell hv (i := vs.length - 1) (by omega)
  obtain ⟨_, h1, hd2, hk2⟩ := Kd.nat_cell hv (i := vs.length - 2) (by omega)
  cases h1
  have g : ∀ (l : List Nat) i (h : i < l.length), l.getD i 0 = l[i] := fun l i h => by rw [List.getD_eq_getElem?_getD, List.getElem?_eq_getElem h]; rfl
  rw [g us vs.length (by omega), g us (vs.length - 1) (by omega), g us (vs.length - 2) (by omega)] at hU1 hU2
  rw [g vs (vs.length - 1) (by omega), g vs (vs.length - 2) (by omega)] at hV1 hV2
  rw [g vs (vs.length - 1) (by omega)] at htop
  generalize us[vs.length]'(by omega) = a0 at *
  generalize us[vs.length - 1]'(by omega) = a1 at *
  generalize us[vs.length - 2]'(by omega) = a2 at *
  generalize vs[vs.length - 1]'(by omega) = b1 at *
  generalize vs[vs.length - 2]'(by omega) = b2 at *
  generalize val us = U at *
  generalize val vs = V at *
  have k0 : a0 < 4294967296 := hmn
  have k1 : a1 < 4294967296 := hm1
  have k2 : a2 < 4294967296 := hm2
  have k3 : b1 < 4294967296 := hk1
  have k4 : b2 < 4294967296 := hk2
  have HK := Lib.hid (show Tops U V a0 a1 a2 b1 b2 (LB ^ (vs.length - 2)) from ⟨hU1, hU2, hV1, hV2, hlt, htop, hk1, hk2, hm1, Nat.pow_pos LBpos⟩)
  have hj0 := join32 (x := (a0 : Int)) (y := (a1 : Int)) (by omega) (by omega) (by omega) (by omega)
  obtain ⟨tp, htp⟩ : ∃ tp, tp = a0 * LB + a1 := ⟨_, rfl⟩
  have htpi : (a0 : Int) * 4294967296 + (a1 : Int) = (tp : Int) := by unfold LB at htp; omega
  rw [htpi] at hj0
  have hbz : ((b1 : Int) == 0) = false := beq_eq_false_iff_ne.2 (by omega)
  have HT := Lib.hid htp
  have hf0 : Fr (fun _ => True) w w := Fr.refl _ _
  have hfirst := HK.out.first
  rw [← htp] at hfirst
  have hq0 : tp / b1 * b1 + tp % b1 = tp := by rw [Nat.mul_comm]; exact Nat.div_add_mod tp b1
  have hr0 : tp % b1 < b1 := Nat.mod_lt _ (by omega)
  have hlow0 := HK.out.low hm2
  rw [← htp] at hlow0
  have HQ0 := Lib.hid (And.intro hq0 hr0)
  clear htpi htp hq0 hr0
  have w0 : IntKind.u64.wrap (a0 : Int) = (a0 : Int) := by rw [IntKind.wrap_u64]; omega
  have w1 : IntKind.u64.wrap (a1 : Int) = (a1 : Int) := by rw [IntKind.wrap_u64]; omega
  have w2 : IntKind.u64.wrap (a2 : Int) = (a2 : Int) := by rw [IntKind.wrap_u64]; omega
  have w3 : IntKind.u64.wrap (b1 : Int) = (b1 : Int) := by rw [IntKind.wrap_u64]; omega
  have w4 : IntKind.u64.wrap (b2 : Int) = (b2 : Int) := by rw [IntKind.wrap_u64]; omega
  have hl1 : vs.length < us.length := by omega
  have hl2 : vs.length - 1 < us.length := by omega
  have hl3 : vs.length - 2 < us.length := by omega
  have HL := Lib.hid hl
  clear hU1 hU2 hV1 hV2 hlt hu hv hud hvd g hl
  have hwr : IntKind.i64.wrap ((vs.length : Int) - 2) = (vs.length : Int) - 2 := by rw [IntKind.wrap_i64]; omega
  have hn1 : (2 : Int) ≤ (vs.length : Int) := by omega
  have hn2 : (vs.length : Int) - 2 < (vs.length : Int) := by omega
  have hn3 : (vs.length : Int) - 2 < (us.length : Int) := by omega
  have hn4 : ((vs.length : Int) - 2).toNat = vs.length - 2 := by omega
  go_enter Try.func95, Try.ntmps95
  go_wp2
  go_step3
  go_wp2
  go_quiet (fail)
  go_wp2
  go_quiet (fail)
  go_wp2
  go_step3
  go_wp2
  go_loopw [7, 8] (fun q r wr => ∃ (g m : Nat), q = .int .u64 g ∧ r = .int .u64 m ∧ g * b1 + m = tp ∧ U / V ≤ g ∧ g ≤ LB + 1 ∧ m < LB ∧ Fr (fun _ => True) w wr) (fun q _ _ => (intOf q).toNat)
  case atStart =>
    refine ⟨tp / b1, tp % b1, ?_, ?_, HQ0.out.1, hlow0, hfirst, Nat.lt_trans HQ0.out.2 hk1, ((Fr.refl _ _).drewN _).drewN _⟩
    · refine congrArg (Value.int .u64) ?_
      rw [← Int.natCast_ediv, IntKind.wrap_u64]
      unfold LB at hfirst
      generalize tp / b1 = q at hfirst
      omega
    · rw [Int.natCast_emod]
  case round =>
    obtain ⟨g, m, rfl, rfl, hs, hlow, hg, hm, hfr⟩ := hrel
    have hc2w := hfr.cell hc2 trivial
    have hd1w := hfr.cell hd1 trivial
    have hd2w := hfr.cell hd2 trivial
    have hm' : m < 4294967296 := hm
    have hg' : g ≤ 4294967297 := hg
    have HS := Lib.hid hs
    clear hs hc2 hd1 hd2 hcn hc1
    by_cases hbig : 4294967296 ≤ g
    · have hb1 : (0 : Int) < (g : Int) / 4294967296 := by omega
      have hst := HK.out.step (HS.out.trans HT.out) hlow (.inl hbig)
      rw [← HT.out] at hst
      go_wp2
      obtain ⟨hg1, hlow1, hs1⟩ := hst
      have HS1 := Lib.hid hs1
      clear hs1
      by_cases hbr : 4294967296 ≤ m + b1
      · have hbr1 : (0 : Int) < ((m : Int) + (b1 : Int)) / 4294967296 := by omega
        go_quiet (fail)
        go_wp2
        (try rw [Exit.noGoto_ret])
        go_ret
        have hcl := HK.out.close' (HS1.out.trans HT.out) (by unfold LB; omega) (show LB ≤ m + b1 by unfold LB; omega)
        exact ⟨⟨g - 1, by go_num, hlow1, hcl⟩, hfr.drewN _⟩
      · have hbr1 : ¬ (0 : Int) < ((m : Int) + (b1 : Int)) / 4294967296 := by omega
        go_quiet (fail)
        go_wp2
        go_roundw
        case rel => exact ⟨g - 1, m + b1, by go_num, by go_num, HS1.out, hlow1, by omega, by unfold LB; omega, hfr.drewN _⟩
        case measure => first | (simp [intOf]; done) | (simp [intOf]; omega)
    · have hb1 : ¬ (0 : Int) < (g : Int) / 4294967296 := by omega
      have hjr := join32 (x := (m : Int)) (y := (a2 : Int)) (by omega) (by omega) (by omega) (by omega)
      have hmul : IntKind.u64.wrap ((g : Int) * (b2 : Int)) = (g : Int) * (b2 : Int) := by
        have h1 : g * b2 ≤ 4294967295 * 4294967295 := Nat.mul_le_mul (by omega) (by omega)
        rw [IntKind.wrap_u64, ← Int.natCast_mul]
        omega
      have hwm : IntKind.u64.wrap ((m : Int) * 4294967296) = (m : Int) * 4294967296 := by rw [IntKind.wrap_u64]; omega
      by_cases hov : m * LB + a2 < g * b2
      · have hov1 : (m : Int) * 4294967296 + (a2 : Int) < (g : Int) * (b2 : Int) := by
          rw [← Int.natCast_mul]; unfold LB at hov; omega
        have hst := HK.out.step (HS.out.trans HT.out) hlow (.inr hov)
        rw [← HT.out] at hst
        clear hov
        go_wp2
        obtain ⟨hg1, hlow1, hs1⟩ := hst
        have HS1 := Lib.hid hs1
        clear hs1
        by_cases hbr : 4294967296 ≤ m + b1
        · have hbr1 : (0 : Int) < ((m : Int) + (b1 : Int)) / 4294967296 := by omega
          go_quiet (fail)
          go_wp2
          (try rw [Exit.noGoto_ret])
          go_ret
          have hcl := HK.out.close' (HS1.out.trans HT.out) (by unfold LB; omega) (show LB ≤ m + b1 by unfold LB; omega)
          exact ⟨⟨g - 1, by go_num, hlow1, hcl⟩, hfr.drewN _⟩
        · have hbr1 : ¬ (0 : Int) < ((m : Int) + (b1 : Int)) / 4294967296 := by omega
          go_quiet (fail)
          go_wp2
          go_roundw
          case rel => exact ⟨g - 1, m + b1, by go_num, by go_num, HS1.out, hlow1, by omega, by unfold LB; omega, hfr.drewN _⟩
          case measure => first | (simp [intOf]; done) | (simp [intOf]; omega)
      · have hov1 : ¬ (m : Int) * 4294967296 + (a2 : Int) < (g : Int) * (b2 : Int) := by
          rw [← Int.natCast_mul]; unfold LB at hov; omega
        have hcl := HK.out.close (HS.out.trans HT.out) hg (Nat.le_of_not_lt hov)
        clear hov
        go_wp2
        go_quiet (fail)
        go_wp2
        (try rw [Exit.noGoto_ret])
        go_ret
        exact ⟨⟨g, rfl, hlow, hcl⟩, hfr.drewN _⟩
end Go.Proofs.Ytodpbkcdcchljaa
