/- The base, part F: what the elder chapters' texts prove, of the functions that this seat has. -/
import Derived.Test.YtlppcfeimpcbjaaGreatBaseE
import Derived.WalkMore
set_option linter.unusedSimpArgs false
set_option linter.unusedVariables false

/- quo.guess. -/
namespace Go.Proofs.YtlppcfeimpcbjaaGreat
open Go.RowKit

set_option maxHeartbeats 2000000 in
theorem guess_calls {S T : Nat → Prop} (w : World) (vu vv : Value) (us vs : List Nat) (hu : Sl Lm S w vu us) (hv : Sl Lm T w vv vs) (hn : 2 ≤ vs.length) (hl : us.length = vs.length + 1)
    (htop : 2147483648 ≤ vs.getD (vs.length - 1) 0) (hlt : val us < LB * val vs) :
    Calls Tryz.prog 161 #[vu, vv] w fun e w' => (∃ g : Nat, e = .returned (.int .u64 g) ∧ val us / val vs ≤ g ∧ g ≤ val us / val vs + 1) ∧ Fr (fun _ => True) w w' := by
  have hud := Kd.nat_all hu
  have hvd := Kd.nat_all hv
  obtain ⟨hU1, hU2⟩ := limbs3 hn hl hud
  obtain ⟨hV1, hV2⟩ := limbs2 hn rfl hvd
  obtain ⟨A, c, rfl, _, _, hlx⟩ := hu.slice
  obtain ⟨A', c', rfl, _, _, hly⟩ := hv.slice
  obtain ⟨ad, rfl, hcn, hmn⟩ := Kd.nat_cell hu (i := vs.length) (by omega)
  obtain ⟨_, h1, hc1, hm1⟩ := Kd.nat_cell hu (i := vs.length - 1) (by omega)
  cases h1
  obtain ⟨_, h1, hc2, hm2⟩ := Kd.nat_cell hu (i := vs.length - 2) (by omega)
  cases h1
  obtain ⟨ad', rfl, hd1, hk1⟩ := Kd.nat_cell hv (i := vs.length - 1) (by omega)
  obtain ⟨_, h1, hd2, hk2⟩ := Kd.nat_cell hv (i := vs.length - 2) (by omega)
  cases h1
  have g : ∀ (l : List Nat) i (h : i < l.length), l.getD i 0 = l[i] := fun l i h => by rw [List.getD_eq_getElem?_getD, List.getElem?_eq_getElem h]; rfl
  rw [g us vs.length (by omega), g us (vs.length - 1) (by omega), g us (vs.length - 2) (by omega)] at hU1 hU2
  rw [g vs (vs.length - 1) (by omega), g vs (vs.length - 2) (by omega)] at hV1 hV2
  rw [g vs (vs.length - 1) (by omega)] at htop
  generalize us[vs.length]'(by omega) = a0 at *
  generalize us[vs.length - 1]'(by omega) = a1 at *
  generalize us[vs.length - 2]'(by omega) = a2 at *
  generalize vs[vs.length - 1]'(by omega) = b1 at *
  generalize vs[vs.length - 2]'(by omega) = b2 at *
  generalize val us = U at *
  generalize val vs = V at *
  have k0 : a0 < 4294967296 := hmn
  have k1 : a1 < 4294967296 := hm1
  have k2 : a2 < 4294967296 := hm2
  have k3 : b1 < 4294967296 := hk1
  have k4 : b2 < 4294967296 := hk2
  have HK := Lib.hid (show Tops U V a0 a1 a2 b1 b2 (LB ^ (vs.length - 2)) from ⟨hU1, hU2, hV1, hV2, hlt, htop, hk1, hk2, hm1, Nat.pow_pos LBpos⟩)
  have hj0 := join32 (x := (a0 : Int)) (y := (a1 : Int)) (by omega) (by omega) (by omega) (by omega)
  obtain ⟨tp, htp⟩ : ∃ tp, tp = a0 * LB + a1 := ⟨_, rfl⟩
  have htpi : (a0 : Int) * 4294967296 + (a1 : Int) = (tp : Int) := by unfold LB at htp; omega
  rw [htpi] at hj0
  have hbz : ((b1 : Int) == 0) = false := beq_eq_false_iff_ne.2 (by omega)
  have HT := Lib.hid htp
  have hf0 : Fr (fun _ => True) w w := Fr.refl _ _
  have hfirst := HK.out.first
  rw [← htp] at hfirst
  have hq0 : tp / b1 * b1 + tp % b1 = tp := by rw [Nat.mul_comm]; exact Nat.div_add_mod tp b1
  have hr0 : tp % b1 < b1 := Nat.mod_lt _ (by omega)
  have hlow0 := HK.out.low hm2
  rw [← htp] at hlow0
  have HQ0 := Lib.hid (And.intro hq0 hr0)
  clear htpi htp hq0 hr0
  have w0 : IntKind.u64.wrap (a0 : Int) = (a0 : Int) := by rw [IntKind.wrap_u64]; omega
  have w1 : IntKind.u64.wrap (a1 : Int) = (a1 : Int) := by rw [IntKind.wrap_u64]; omega
  have w2 : IntKind.u64.wrap (a2 : Int) = (a2 : Int) := by rw [IntKind.wrap_u64]; omega
  have w3 : IntKind.u64.wrap (b1 : Int) = (b1 : Int) := by rw [IntKind.wrap_u64]; omega
  have w4 : IntKind.u64.wrap (b2 : Int) = (b2 : Int) := by rw [IntKind.wrap_u64]; omega
  have hl1 : vs.length < us.length := by omega
  have hl2 : vs.length - 1 < us.length := by omega
  have hl3 : vs.length - 2 < us.length := by omega
  have HL := Lib.hid hl
  clear hU1 hU2 hV1 hV2 hlt hu hv hud hvd g hl
  have hwr : IntKind.i64.wrap ((vs.length : Int) - 2) = (vs.length : Int) - 2 := by rw [IntKind.wrap_i64]; omega
  have hn1 : (2 : Int) ≤ (vs.length : Int) := by omega
  have hn2 : (vs.length : Int) - 2 < (vs.length : Int) := by omega
  have hn3 : (vs.length : Int) - 2 < (us.length : Int) := by omega
  have hn4 : ((vs.length : Int) - 2).toNat = vs.length - 2 := by omega
  go_enter Tryz.func161, Tryz.ntmps161
  go_wp2
  go_step3
  go_wp2
  go_quiet (fail)
  go_wp2
  go_quiet (fail)
  go_wp2
  go_step3
  go_wp2
  go_loopw [7, 8] (fun q r wr => ∃ (g m : Nat), q = .int .u64 g ∧ r = .int .u64 m ∧ g * b1 + m = tp ∧ U / V ≤ g ∧ g ≤ LB + 1 ∧ m < LB ∧ Fr (fun _ => True) w wr) (fun q _ _ => (intOf q).toNat)
  case atStart =>
    refine ⟨tp / b1, tp % b1, ?_, ?_, HQ0.out.1, hlow0, hfirst, Nat.lt_trans HQ0.out.2 hk1, ((Fr.refl _ _).drewN _).drewN _⟩
    · refine congrArg (Value.int .u64) ?_
      rw [← Int.natCast_ediv, IntKind.wrap_u64]
      unfold LB at hfirst
      generalize tp / b1 = q at hfirst
      omega
    · rw [Int.natCast_emod]
  case round =>
    obtain ⟨g, m, rfl, rfl, hs, hlow, hg, hm, hfr⟩ := hrel
    have hc2w := hfr.cell hc2 trivial
    have hd1w := hfr.cell hd1 trivial
    have hd2w := hfr.cell hd2 trivial
    have hm' : m < 4294967296 := hm
    have hg' : g ≤ 4294967297 := hg
    have HS := Lib.hid hs
    clear hs hc2 hd1 hd2 hcn hc1
    by_cases hbig : 4294967296 ≤ g
    · have hb1 : (0 : Int) < (g : Int) / 4294967296 := by omega
      have hst := HK.out.step (HS.out.trans HT.out) hlow (.inl hbig)
      rw [← HT.out] at hst
      go_wp2
      obtain ⟨hg1, hlow1, hs1⟩ := hst
      have HS1 := Lib.hid hs1
      clear hs1
      by_cases hbr : 4294967296 ≤ m + b1
      · have hbr1 : (0 : Int) < ((m : Int) + (b1 : Int)) / 4294967296 := by omega
        go_quiet (fail)
        go_wp2
        (try rw [Exit.noGoto_ret])
        go_ret
        have hcl := HK.out.close' (HS1.out.trans HT.out) (by unfold LB; omega) (show LB ≤ m + b1 by unfold LB; omega)
        exact ⟨⟨g - 1, by go_num, hlow1, hcl⟩, hfr.drewN _⟩
      · have hbr1 : ¬ (0 : Int) < ((m : Int) + (b1 : Int)) / 4294967296 := by omega
        go_quiet (fail)
        go_wp2
        go_roundw
        case rel => exact ⟨g - 1, m + b1, by go_num, by go_num, HS1.out, hlow1, by omega, by unfold LB; omega, hfr.drewN _⟩
        case measure => first | (simp [intOf]; done) | (simp [intOf]; omega)
    · have hb1 : ¬ (0 : Int) < (g : Int) / 4294967296 := by omega
      have hjr := join32 (x := (m : Int)) (y := (a2 : Int)) (by omega) (by omega) (by omega) (by omega)
      have hmul : IntKind.u64.wrap ((g : Int) * (b2 : Int)) = (g : Int) * (b2 : Int) := by
        have h1 : g * b2 ≤ 4294967295 * 4294967295 := Nat.mul_le_mul (by omega) (by omega)
        rw [IntKind.wrap_u64, ← Int.natCast_mul]
        omega
      have hwm : IntKind.u64.wrap ((m : Int) * 4294967296) = (m : Int) * 4294967296 := by rw [IntKind.wrap_u64]; omega
      by_cases hov : m * LB + a2 < g * b2
      · have hov1 : (m : Int) * 4294967296 + (a2 : Int) < (g : Int) * (b2 : Int) := by
          rw [← Int.natCast_mul]; unfold LB at hov; omega
        have hst := HK.out.step (HS.out.trans HT.out) hlow (.inr hov)
        rw [← HT.out] at hst
        clear hov
        go_wp2
        obtain ⟨hg1, hlow1, hs1⟩ := hst
        have HS1 := Lib.hid hs1
        clear hs1
        by_cases hbr : 4294967296 ≤ m + b1
        · have hbr1 : (0 : Int) < ((m : Int) + (b1 : Int)) / 4294967296 := by omega
          go_quiet (fail)
          go_wp2
          (try rw [Exit.noGoto_ret])
          go_ret
          have hcl := HK.out.close' (HS1.out.trans HT.out) (by unfold LB; omega) (show LB ≤ m + b1 by unfold LB; omega)
          exact ⟨⟨g - 1, by go_num, hlow1, hcl⟩, hfr.drewN _⟩
        · have hbr1 : ¬ (0 : Int) < ((m : Int) + (b1 : Int)) / 4294967296 := by omega
          go_quiet (fail)
          go_wp2
          go_roundw
          case rel => exact ⟨g - 1, m + b1, by go_num, by go_num, HS1.out, hlow1, by omega, by unfold LB; omega, hfr.drewN _⟩
          case measure => first | (simp [intOf]; done) | (simp [intOf]; omega)
      · have hov1 : ¬ (m : Int) * 4294967296 + (a2 : Int) < (g : Int) * (b2 : Int) := by
          rw [← Int.natCast_mul]; unfold LB at hov; omega
        have hcl := HK.out.close (HS.out.trans HT.out) hg (Nat.le_of_not_lt hov)
        clear hov
        go_wp2
        go_quiet (fail)
        go_wp2
        (try rw [Exit.noGoto_ret])
        go_ret
        exact ⟨⟨g, rfl, hlow, hcl⟩, hfr.drewN _⟩
end Go.Proofs.YtlppcfeimpcbjaaGreat


/- quo.take, back. -/
namespace Go.Proofs.YtlppcfeimpcbjaaGreat
open Go.RowKit

theorem set_mid (us ds : List Nat) (j d : Nat) (h : j + ds.length < us.length) : (us.take j ++ ds ++ us.drop (j + ds.length)).set (j + ds.length) d = us.take j ++ (ds ++ [d]) ++ us.drop (j + (ds.length + 1)) := by
  have hl : (us.take j ++ ds).length = j + ds.length := by simp; omega
  rw [List.set_append_right _ _ (by omega), hl, Nat.sub_self, List.drop_eq_getElem_cons h]
  simp [List.append_assoc, Nat.add_assoc]
theorem get_mid (us ds : List Nat) (j : Nat) (h : j + ds.length < us.length) (h2 : j + ds.length < (us.take j ++ ds ++ us.drop (j + ds.length)).length) : (us.take j ++ ds ++ us.drop (j + ds.length))[j + ds.length] = us[j + ds.length] := by
  have hl : (us.take j ++ ds).length = j + ds.length := by simp; omega
  rw [List.getElem_append_right (by omega)]
  simp [hl]
theorem len_mid (us ds : List Nat) (j : Nat) (h : j + ds.length ≤ us.length) : (us.take j ++ ds ++ us.drop (j + ds.length)).length = us.length := by simp; omega

structure TakeN (part vs : List Nat) (q i : Nat) (ds : List Nat) (bw cy : Nat) : Prop where
  len : ds.length = i
  small : ∀ d ∈ ds, d < LB
  lent : bw ≤ 1
  carry : cy = 0 ∨ cy + 1 ≤ q
  sum : ofB LB ds + q * sumTo LB (fun k => vs.getD k 0) i = sumTo LB (fun k => part.getD k 0) i + LB ^ i * (bw + cy)
theorem TakeN.step {part vs : List Nat} {q i : Nat} {ds : List Nat} {bw cy d b' : Nat} (h : TakeN part vs q i ds bw cy) (hq : q ≤ LB) (hv : ∀ d ∈ vs, d < LB) (hd : d < LB) (hb : b' ≤ 1)
    (e : d + (q * vs.getD i 0 + cy) % LB + bw = part.getD i 0 + LB * b') : TakeN part vs q (i + 1) (ds ++ [d]) b' ((q * vs.getD i 0 + cy) / LB) := by
  obtain ⟨h1, h2, h3, h4, h5⟩ := h
  have hx : vs.getD i 0 < LB := by
    rw [List.getD_eq_getElem?_getD]
    cases hx : vs[i]? with
    | none => exact LBpos
    | some d => exact hv d (List.mem_of_getElem? hx)
  refine ⟨by simp [h1], ?_, hb, ?_, ?_⟩
  · intro x hx'
    rcases List.mem_append.1 hx' with hm | hm
    · exact h2 x hm
    · simp at hm; subst hm; exact hd
  · rcases Nat.eq_zero_or_pos q with rfl | hp
    · left
      have : cy = 0 := by omega
      subst this
      simp
    · right
      have h6 : q * vs.getD i 0 ≤ q * (LB - 1) := Nat.mul_le_mul_left q (by omega)
      have h7 : q * (LB - 1) + q = q * LB := by rw [← Nat.mul_succ]; congr 1
      have h8 : (q * vs.getD i 0 + cy) / LB < q := Nat.div_lt_of_lt_mul (by rw [Nat.mul_comm LB]; omega)
      omega
  · have e1 := Nat.mod_add_div (q * vs.getD i 0 + cy) LB
    generalize (q * vs.getD i 0 + cy) % LB = lo at e e1
    generalize (q * vs.getD i 0 + cy) / LB = hi at e1
    rw [ofB_snoc, sumTo, sumTo, h1, Nat.pow_succ, Nat.mul_add, Nat.mul_left_comm q (LB ^ i)]
    generalize q * vs.getD i 0 = qv at e1
    have e4 : d + qv + (bw + cy) = part.getD i 0 + LB * (b' + hi) := by rw [Nat.mul_add]; omega
    have e5 := congrArg (fun n => LB ^ i * n) e4
    simp only [Nat.mul_add] at e5 h5
    rw [Nat.mul_assoc, Nat.mul_add, Nat.mul_add]
    omega

set_option maxHeartbeats 2000000 in
theorem take_calls (w : World) (g j c : Nat) (vv : Value) (us vs : List Nat) (q : Nat) (hrow : URow w g us) (hus : ∀ d ∈ us, d < LB) (hv : Sl Lm (fun k => k ≠ g) w vv vs) (hj : j + (vs.length + 1) ≤ us.length) (hq : q ≤ LB) (hul : us.length ≤ 1099511627000) :
    Calls Tryz.prog 162 #[.slice (some ⟨g, j, none⟩) (vs.length + 1) c, vv, .int .u64 q] w fun e w' => ∃ (ds : List Nat) (b : Bool), e = .returned (.bool b) ∧ ds.length = vs.length + 1 ∧ (∀ d ∈ ds, d < LB) ∧
      URow w' g (us.take j ++ ds ++ us.drop (j + (vs.length + 1))) ∧ ofB LB ds + q * val vs = val ((us.drop j).take (vs.length + 1)) + LB ^ (vs.length + 1) * (if b then 1 else 0) ∧ Fr (fun k => k ≠ g) w w' := by
  have hvd := Kd.nat_all hv
  obtain ⟨A', c', rfl, _, _, hly⟩ := hv.slice
  obtain ⟨part, hpart⟩ : ∃ part, part = (us.drop j).take (vs.length + 1) := ⟨_, rfl⟩
  have hpl : part.length = vs.length + 1 := by rw [hpart]; simp; omega
  have hpg : ∀ i, i < vs.length + 1 → ∀ h : j + i < us.length, part.getD i 0 = us[j + i] := fun i hi h => by
    rw [hpart, List.getD_eq_getElem?_getD, List.getElem?_take, if_pos hi, List.getElem?_drop, List.getElem?_eq_getElem h]; rfl
  rw [← hpart]
  have hq' : q ≤ 4294967296 := hq
  have HV := Lib.hid hv
  have HP := Lib.hid (And.intro hpart (And.intro hpl hpg))
  clear hpart hpl hpg hv
  go_enter Tryz.func162, Tryz.ntmps162
  go_wp2_with fail
  go_loopw [7, 8, 9, 10, 11, 14] (fun cy bw _ _ _ i wr => ∃ (k cv bv : Nat) (ds : List Nat), k ≤ vs.length ∧ i = .int .i64 k ∧ cy = .int .u64 cv ∧ bw = .int .u32 bv ∧ TakeN part vs q k ds bv cv ∧ URow wr g (us.take j ++ ds ++ us.drop (j + k)) ∧ Fr (fun k => k ≠ g) w wr) (fun _ _ _ _ _ i _ => vs.length - (intOf i).toNat)
  case atStart => exact ⟨0, 0, 0, [], Nat.zero_le _, rfl, rfl, rfl, ⟨rfl, by simp, by omega, .inl rfl, by simp [sumTo, ofB]⟩, by simpa using hrow, Fr.refl _ _⟩
  case round =>
    obtain ⟨k, cv, bv, ds, hk, rfl, rfl, rfl, hN, hr, hfr⟩ := hrel
    have hlen := hN.len
    have hb1 := hN.lent
    have hcv := hN.carry
    by_cases hlt : k < vs.length
    · have hvw := HV.out.fr hfr
      obtain ⟨ad, rfl, hx, hxm⟩ := Kd.nat_cell hvw (i := k) hlt
      have ex : vs.getD k 0 = vs[k] := by rw [List.getD_eq_getElem?_getD, List.getElem?_eq_getElem hlt]; rfl
      have ea := HP.out.2.2 k (by omega) (by omega)
      have hjk : j + k < us.length := by omega
      have hcl := len_mid us ds j (by omega)
      rw [hlen] at hcl
      have hcell := hr.cell (j := j + k) (by rw [hcl]; omega)
      have hgm := get_mid us ds j (by omega) (by rw [hlen, hcl]; omega)
      simp only [hlen] at hgm
      rw [hgm] at hcell
      have hst := fun d b' => hN.step (d := d) (b' := b') hq hvd
      rw [ex, ea] at hst
      have ham : us[j + k] < LB := hus _ (List.getElem_mem hjk)
      generalize us[j + k] = a at hcell hst ham ea hgm
      generalize vs[k] = x at hx hxm hst ex
      have hx' : x < 4294967296 := hxm
      have ha' : a < 4294967296 := ham
      have hfree := hr.free (j + k)
      have hglt := hr.lt
      have hp : q * x ≤ 4294967296 * 4294967295 := Nat.mul_le_mul hq' (by omega)
      have hcv' : cv < 4294967296 := by omega
      obtain ⟨P, hP⟩ : ∃ P, P = q * x + cv := ⟨_, rfl⟩
      rw [← hP] at hst
      have p1 := sub32_calls wr a (P % 4294967296) bv ham (by unfold LB; omega) hb1
      rw [show ((P % 4294967296 : Nat) : Int) = ((q : Int) * (x : Int) + (cv : Int)) % 4294967296 from by rw [hP]; simp] at p1
      have hadd : (⟨g, j, none⟩ : Addr).add k = ⟨g, j + k, none⟩ := by simp [Addr.add]
      have HST := Lib.hid hst
      have HPP := Lib.hid (And.intro hP (And.intro ea ex))
      have P1 := Lib.hid p1
      have HR := Lib.hid hr
      have HL := Lib.hid hlen
      clear hst hP ea ex p1 hr hlen hcl hgm
      go_wp2_with ((with_reducible refine P1.out.mono ?_); rintro e w2 ⟨⟨d, b', rfl, hd, hb', hsum⟩, rfl⟩)
      have hsum' : d + P % LB + bv = a + LB * b' := hsum
      have hset := HR.out.set (j + k) d
      have hmid := set_mid us ds j d (by rw [HL.out]; exact hjk)
      simp only [HL.out] at hmid
      rw [hmid] at hset
      have hw : Fr (fun k => k ≠ g) w (w2.setCell ⟨g, j + k, none⟩ (.int .u32 (d : Int))) := hfr.setCell (p := ⟨g, j + k, none⟩) (fun _ h => h rfl) _
      have HN := Lib.hid (HST.out d b' hd hb' hsum')
      clear hsum hsum' hmid
      go_wp2_with fail
      go_roundw
      case rel => exact ⟨k + 1, P / LB, b', _, hlt, by go_num, by rw [HPP.out.1]; go_num, rfl, HN.out, hset, hw⟩
      case measure => first | (simp [intOf]; done) | (simp [intOf]; omega)
    · obtain rfl : k = vs.length := by omega
      have ea := HP.out.2.2 vs.length (by omega) (by omega)
      have hjk : j + vs.length < us.length := by omega
      have hcl := len_mid us ds j (by omega)
      rw [hlen] at hcl
      have hcell := hr.cell (j := j + vs.length) (by rw [hcl]; omega)
      have hgm := get_mid us ds j (by omega) (by rw [hlen, hcl]; omega)
      simp only [hlen] at hgm
      rw [hgm] at hcell
      have ham : us[j + vs.length] < LB := hus _ (List.getElem_mem hjk)
      generalize us[j + vs.length] = a at hcell ham ea hgm
      have hfree := hr.free (j + vs.length)
      have hglt := hr.lt
      have hcv' : cv < 4294967296 := by omega
      have ha' : a < 4294967296 := ham
      have p1 := sub32_calls wr a cv bv ham (by unfold LB; omega) hb1
      have hadd : (⟨g, j, none⟩ : Addr).add vs.length = ⟨g, j + vs.length, none⟩ := by simp [Addr.add]
      have P1 := Lib.hid p1
      have HR := Lib.hid hr
      have HL := Lib.hid (And.intro hlen ea)
      have hvl : vs.length < vs.length + 1 := Nat.lt_succ_self _
      clear p1 hr hcl hgm hlen ea
      go_wp2_with fail
      refine P1.out.mono ?_
      rintro e w2 ⟨⟨d, b', rfl, hd, hb', hsum⟩, rfl⟩
      have hset := HR.out.set (j + vs.length) d
      have hmid := set_mid us ds j d (by rw [HL.out.1]; exact hjk)
      simp only [HL.out.1] at hmid
      rw [hmid] at hset
      have hw : Fr (fun k => k ≠ g) w (w2.setCell ⟨g, j + vs.length, none⟩ (.int .u32 (d : Int))) := hfr.setCell (p := ⟨g, j + vs.length, none⟩) (fun _ h => h rfl) _
      have hfin : ofB LB (ds ++ [d]) + q * val vs = val part + LB ^ (vs.length + 1) * b' := by
        have h1 := hN.sum
        have h2 : val part = sumTo LB (fun k => part.getD k 0) vs.length + LB ^ vs.length * a := by
          rw [← HL.out.2]
          show ofB LB part = _
          rw [← sumTo_all LB part (vs.length + 1) (by rw [HP.out.2.1]; exact Nat.le_refl _)]
          rfl
        rw [sumTo_all LB vs vs.length (Nat.le_refl _)] at h1
        have h1' : ofB LB ds + q * val vs = sumTo LB (fun k => part.getD k 0) vs.length + LB ^ vs.length * (bv + cv) := h1
        have h3 := congrArg (fun n => LB ^ vs.length * n) hsum
        simp only [Nat.mul_add] at h3 h1'
        rw [ofB_snoc, HL.out.1, h2, Nat.pow_succ, Nat.mul_assoc]
        omega
      have hsm : ∀ d' ∈ ds ++ [d], d' < LB := by
        intro x hx'
        rcases List.mem_append.1 hx' with hm | hm
        · exact hN.small x hm
        · simp at hm; subst hm; exact hd
      have HF := Lib.hid (And.intro hfin (And.intro hsm (show (ds ++ [d]).length = vs.length + 1 by simp [HL.out.1])))
      clear hfin hsm hmid hsum
      rcases (show b' = 0 ∨ b' = 1 by omega) with rfl | rfl
      · go_wp2_with fail
        go_ret
        exact ⟨ds ++ [d], false, rfl, HF.out.2.2, HF.out.2.1, hset, HF.out.1, hw⟩
      · go_wp2_with fail
        go_ret
        exact ⟨ds ++ [d], true, rfl, HF.out.2.2, HF.out.2.1, hset, HF.out.1, hw⟩

structure BackN (part vs : List Nat) (i : Nat) (ds : List Nat) (cy : Nat) : Prop where
  len : ds.length = i
  small : ∀ d ∈ ds, d < LB
  carry : cy ≤ 1
  sum : ofB LB ds + LB ^ i * cy = sumTo LB (fun k => part.getD k 0) i + sumTo LB (fun k => vs.getD k 0) i
theorem BackN.step {part vs : List Nat} {i : Nat} {ds : List Nat} {cy : Nat} (h : BackN part vs i ds cy) (hp : part.getD i 0 < LB) (hv : vs.getD i 0 < LB) :
    BackN part vs (i + 1) (ds ++ [(part.getD i 0 + vs.getD i 0 + cy) % LB]) ((part.getD i 0 + vs.getD i 0 + cy) / LB) := by
  obtain ⟨h1, h2, h3, h4⟩ := h
  refine ⟨by simp [h1], ?_, ?_, ?_⟩
  · intro x hx'
    rcases List.mem_append.1 hx' with hm | hm
    · exact h2 x hm
    · simp at hm; subst hm; exact Nat.mod_lt _ LBpos
  · have : (part.getD i 0 + vs.getD i 0 + cy) / LB < 2 := Nat.div_lt_of_lt_mul (by omega)
    omega
  · have e := Nat.mod_add_div (part.getD i 0 + vs.getD i 0 + cy) LB
    generalize (part.getD i 0 + vs.getD i 0 + cy) % LB = lo at e
    generalize (part.getD i 0 + vs.getD i 0 + cy) / LB = hi at e
    have e5 := congrArg (fun n => LB ^ i * n) e
    simp only [Nat.mul_add] at e5
    rw [ofB_snoc, sumTo, sumTo, h1, Nat.pow_succ, Nat.mul_assoc]
    omega

set_option maxHeartbeats 2000000 in
theorem back_calls (w : World) (g j c : Nat) (vv : Value) (us vs : List Nat) (hrow : URow w g us) (hus : ∀ d ∈ us, d < LB) (hv : Sl Lm (fun k => k ≠ g) w vv vs) (hj : j + (vs.length + 1) ≤ us.length) (hul : us.length ≤ 1099511627000) :
    Calls Tryz.prog 163 #[.slice (some ⟨g, j, none⟩) (vs.length + 1) c, vv] w fun e w' => e = .returned (.tuple #[]) ∧ ∃ (ds : List Nat), ds.length = vs.length + 1 ∧ (∀ d ∈ ds, d < LB) ∧
      URow w' g (us.take j ++ ds ++ us.drop (j + (vs.length + 1))) ∧ ofB LB ds = (val ((us.drop j).take (vs.length + 1)) + val vs) % LB ^ (vs.length + 1) ∧ Fr (fun k => k ≠ g) w w' := by
  have hvd := Kd.nat_all hv
  obtain ⟨A', c', rfl, _, _, hly⟩ := hv.slice
  obtain ⟨part, hpart⟩ : ∃ part, part = (us.drop j).take (vs.length + 1) := ⟨_, rfl⟩
  have hpl : part.length = vs.length + 1 := by rw [hpart]; simp; omega
  have hpg : ∀ i, i < vs.length + 1 → ∀ h : j + i < us.length, part.getD i 0 = us[j + i] := fun i hi h => by
    rw [hpart, List.getD_eq_getElem?_getD, List.getElem?_take, if_pos hi, List.getElem?_drop, List.getElem?_eq_getElem h]; rfl
  rw [← hpart]
  have HV := Lib.hid hv
  have HP := Lib.hid (And.intro hpart (And.intro hpl hpg))
  clear hpart hpl hpg hv
  go_enter Tryz.func163, Tryz.ntmps163
  go_wp2_with fail
  go_loopw [4, 5, 6, 9] (fun cy _ _ i wr => ∃ (k cv : Nat) (ds : List Nat), k ≤ vs.length ∧ i = .int .i64 k ∧ cy = .int .u32 cv ∧ BackN part vs k ds cv ∧ URow wr g (us.take j ++ ds ++ us.drop (j + k)) ∧ Fr (fun k => k ≠ g) w wr) (fun _ _ _ i _ => vs.length - (intOf i).toNat)
  case atStart => exact ⟨0, 0, [], Nat.zero_le _, rfl, rfl, ⟨rfl, by simp, by omega, by simp [sumTo, ofB]⟩, by simpa using hrow, Fr.refl _ _⟩
  case round =>
    obtain ⟨k, cv, ds, hk, rfl, rfl, hN, hr, hfr⟩ := hrel
    have hlen := hN.len
    have hb1 := hN.carry
    by_cases hlt : k < vs.length
    · have hvw := HV.out.fr hfr
      obtain ⟨ad, rfl, hx, hxm⟩ := Kd.nat_cell hvw (i := k) hlt
      have ex : vs.getD k 0 = vs[k] := by rw [List.getD_eq_getElem?_getD, List.getElem?_eq_getElem hlt]; rfl
      have ea := HP.out.2.2 k (by omega) (by omega)
      have hjk : j + k < us.length := by omega
      have hcl := len_mid us ds j (by omega)
      rw [hlen] at hcl
      have hcell := hr.cell (j := j + k) (by rw [hcl]; omega)
      have hgm := get_mid us ds j (by omega) (by rw [hlen, hcl]; omega)
      simp only [hlen] at hgm
      rw [hgm] at hcell
      have ham : us[j + k] < LB := hus _ (List.getElem_mem hjk)
      have hst := hN.step (by rw [ea]; exact ham) (by rw [ex]; exact hxm)
      rw [ex, ea] at hst
      generalize us[j + k] = a at hcell hst ham ea hgm
      generalize vs[k] = x at hx hxm hst ex
      have hx' : x < 4294967296 := hxm
      have ha' : a < 4294967296 := ham
      have hfree := hr.free (j + k)
      have hglt := hr.lt
      have p1 := add32_calls wr a x cv ham hxm (by unfold LB; omega)
      have hadd : (⟨g, j, none⟩ : Addr).add k = ⟨g, j + k, none⟩ := by simp [Addr.add]
      obtain ⟨lo, hlo⟩ : ∃ lo, lo = (a + x + cv) % LB := ⟨_, rfl⟩
      obtain ⟨hi, hhi⟩ : ∃ hi, hi = (a + x + cv) / LB := ⟨_, rfl⟩
      rw [← hlo, ← hhi] at p1 hst
      have HST := Lib.hid hst
      have HPP := Lib.hid (And.intro hlo (And.intro hhi (And.intro ea ex)))
      have P1 := Lib.hid p1
      have HR := Lib.hid hr
      have HL := Lib.hid hlen
      clear hst hlo hhi ea ex p1 hr hlen hcl hgm
      go_wp2_with ((with_reducible refine P1.out.mono ?_); rintro e w2 ⟨rfl, rfl⟩)
      have hset := HR.out.set (j + k) lo
      have hmid := set_mid us ds j lo (by rw [HL.out]; exact hjk)
      simp only [HL.out] at hmid
      rw [hmid] at hset
      have hw : Fr (fun k => k ≠ g) w (w2.setCell ⟨g, j + k, none⟩ (.int .u32 (lo : Int))) := hfr.setCell (p := ⟨g, j + k, none⟩) (fun _ h => h rfl) _
      clear hmid
      go_wp2_with fail
      go_roundw
      case rel => exact ⟨k + 1, hi, _, hlt, by go_num, rfl, HST.out, hset, hw⟩
      case measure => first | (simp [intOf]; done) | (simp [intOf]; omega)
    · obtain rfl : k = vs.length := by omega
      have ea := HP.out.2.2 vs.length (by omega) (by omega)
      have hjk : j + vs.length < us.length := by omega
      have hcl := len_mid us ds j (by omega)
      rw [hlen] at hcl
      have hcell := hr.cell (j := j + vs.length) (by rw [hcl]; omega)
      have hgm := get_mid us ds j (by omega) (by rw [hlen, hcl]; omega)
      simp only [hlen] at hgm
      rw [hgm] at hcell
      have ham : us[j + vs.length] < LB := hus _ (List.getElem_mem hjk)
      generalize us[j + vs.length] = a at hcell ham ea hgm
      have hfree := hr.free (j + vs.length)
      have hglt := hr.lt
      have ha' : a < 4294967296 := ham
      have hadd : (⟨g, j, none⟩ : Addr).add vs.length = ⟨g, j + vs.length, none⟩ := by simp [Addr.add]
      have HR := Lib.hid hr
      have HL := Lib.hid (And.intro hlen ea)
      have hvl : vs.length < vs.length + 1 := Nat.lt_succ_self _
      clear hr hcl hgm hlen ea
      go_wp2_with fail
      obtain ⟨d, hd⟩ : ∃ d, d = (a + cv) % LB := ⟨_, rfl⟩
      have hdi : ((a : Int) + (cv : Int)) % 4294967296 = (d : Int) := by rw [hd]; unfold LB; omega
      rw [hdi]
      have hdl : d < LB := by rw [hd]; exact Nat.mod_lt _ LBpos
      have hset := HR.out.set (j + vs.length) d
      have hmid := set_mid us ds j d (by rw [HL.out.1]; exact hjk)
      simp only [HL.out.1] at hmid
      rw [hmid] at hset
      have hw : Fr (fun k => k ≠ g) w (wr.setCell ⟨g, j + vs.length, none⟩ (.int .u32 (d : Int))) := hfr.setCell (p := ⟨g, j + vs.length, none⟩) (fun _ h => h rfl) _
      have hsm : ∀ d' ∈ ds ++ [d], d' < LB := by
        intro x hx'
        rcases List.mem_append.1 hx' with hm | hm
        · exact hN.small x hm
        · simp at hm; subst hm; exact hdl
      have hlen1 : (ds ++ [d]).length = vs.length + 1 := by simp [HL.out.1]
      have hfin : ofB LB (ds ++ [d]) = (val part + val vs) % LB ^ (vs.length + 1) := by
        have h1 := hN.sum
        have h2 : val part = sumTo LB (fun k => part.getD k 0) vs.length + LB ^ vs.length * a := by
          rw [← HL.out.2]
          show ofB LB part = _
          rw [← sumTo_all LB part (vs.length + 1) (by rw [HP.out.2.1]; exact Nat.le_refl _)]
          rfl
        rw [sumTo_all LB vs vs.length (Nat.le_refl _)] at h1
        have h1' : ofB LB ds + LB ^ vs.length * cv = sumTo LB (fun k => part.getD k 0) vs.length + val vs := h1
        have h3 := Nat.mod_add_div (a + cv) LB
        rw [← hd] at h3
        have h4 := congrArg (fun n => LB ^ vs.length * n) h3
        simp only [Nat.mul_add] at h4
        have h5 := ofB_lt hsm
        rw [hlen1] at h5
        have h6 : val part + val vs = ofB LB (ds ++ [d]) + LB ^ (vs.length + 1) * ((a + cv) / LB) := by
          rw [ofB_snoc, HL.out.1, h2, Nat.pow_succ, Nat.mul_assoc]
          omega
        rw [h6, Nat.add_mul_mod_self_left, Nat.mod_eq_of_lt h5]
      go_end0
      exact ⟨rfl, ds ++ [d], hlen1, hsm, hset, hfin, hw⟩
end Go.Proofs.YtlppcfeimpcbjaaGreat


/- The long division, in plain numbers. -/
namespace Go.Proofs.YtlppcfeimpcbjaaGreat
open Go.RowKit

theorem val_split (l : List Nat) (j : Nat) (h : j ≤ l.length) : val l = val (l.take j) + LB ^ j * val (l.drop j) := by
  have e := ofB_append LB (l.take j) (l.drop j)
  rw [List.take_append_drop, List.length_take, Nat.min_eq_left h] at e
  exact e
theorem take_mid (us ds : List Nat) (j r : Nat) (h : j ≤ us.length) : (us.take j ++ ds ++ us.drop r).take j = us.take j := by
  rw [List.append_assoc, List.take_append_of_le_length (by simp; omega), List.take_take]; simp
theorem drop_mid (us ds : List Nat) (j r : Nat) (h : j ≤ us.length) : (us.take j ++ ds ++ us.drop r).drop j = ds ++ us.drop r := by
  have : (us.take j).length = j := by simp; omega
  rw [List.append_assoc, List.drop_append_of_le_length (by omega), List.drop_of_length_le (by omega), List.nil_append]

structure DivN (A V n m k : Nat) (us qs : List Nat) : Prop where
  ulen : us.length = m + n
  usm : ∀ d ∈ us, d < LB
  qlen : qs.length = m
  qsm : ∀ d ∈ qs, d < LB
  less : val (us.drop k) < V
  sum : A = V * (LB ^ k * val (qs.drop k)) + val us

section
variable {A V n m j : Nat} {us qs : List Nat}
/-- what stands above the part is nought -/
theorem DivN.above (h : DivN A V n m (j + 1) us qs) (hV : V < LB ^ n) (hj : j < m) : val (us.drop (j + (n + 1))) = 0 := by
  have h1 := h.less
  have h2 := val_split (us.drop (j + 1)) n (by have := h.ulen; simp; omega)
  rw [List.drop_drop, show j + 1 + n = j + (n + 1) by omega] at h2
  rcases Nat.eq_zero_or_pos (val (us.drop (j + (n + 1)))) with e | e
  · exact e
  · have h3 : LB ^ n * 1 ≤ LB ^ n * val (us.drop (j + (n + 1))) := Nat.mul_le_mul_left _ e
    omega
theorem DivN.part (h : DivN A V n m (j + 1) us qs) (hV : V < LB ^ n) (hj : j < m) : val (us.drop j) = val ((us.drop j).take (n + 1)) ∧ val ((us.drop j).take (n + 1)) < LB * V := by
  have h1 := val_split (us.drop j) (n + 1) (by have := h.ulen; simp; omega)
  rw [List.drop_drop, h.above hV hj, Nat.mul_zero, Nat.add_zero] at h1
  refine ⟨h1, ?_⟩
  rw [← h1]
  have hjl : j < us.length := by have := h.ulen; omega
  rw [List.drop_eq_getElem_cons hjl]
  show us[j] + LB * val (us.drop (j + 1)) < LB * V
  have h2 := h.usm us[j] (List.getElem_mem hjl)
  have h3 := Nat.mul_le_mul_left LB (show val (us.drop (j + 1)) + 1 ≤ V from h.less)
  rw [Nat.mul_add] at h3
  omega
theorem DivN.step (h : DivN A V n m (j + 1) us qs) (hV : V < LB ^ n) (hV0 : 0 < V) (hj : j < m) {ds : List Nat} (hdl : ds.length = n + 1) (hds : ∀ d ∈ ds, d < LB) (hd : ofB LB ds = val ((us.drop j).take (n + 1)) % V) :
    DivN A V n m j (us.take j ++ ds ++ us.drop (j + (n + 1))) (qs.set j (val ((us.drop j).take (n + 1)) / V)) := by
  have hp := h.part hV hj
  have ha := h.above hV hj
  have hul := h.ulen
  obtain ⟨U, hU⟩ : ∃ U, U = val ((us.drop j).take (n + 1)) := ⟨_, rfl⟩
  rw [← hU] at hd hp ⊢
  have hq : U / V < LB := (Nat.div_lt_iff_lt_mul hV0).2 hp.2
  have hdrop : val (ds ++ us.drop (j + (n + 1))) = U % V := by
    show ofB LB (ds ++ us.drop (j + (n + 1))) = _
    rw [ofB_append, show ofB LB (us.drop (j + (n + 1))) = 0 from ha, Nat.mul_zero, Nat.add_zero, hd]
  refine ⟨by simp [hdl]; omega, ?_, by simp [h.qlen], ?_, ?_, ?_⟩
  · intro d hm
    rcases List.mem_append.1 hm with hm | hm
    · rcases List.mem_append.1 hm with hm | hm
      · exact h.usm d (List.mem_of_mem_take hm)
      · exact hds d hm
    · exact h.usm d (List.mem_of_mem_drop hm)
  · intro q hm
    rcases List.mem_or_eq_of_mem_set hm with h' | rfl
    · exact h.qsm q h'
    · exact hq
  · rw [drop_mid us ds j _ (by omega), hdrop]
    exact Nat.mod_lt _ hV0
  · have e1 : val (us.take j ++ ds ++ us.drop (j + (n + 1))) = val (us.take j) + LB ^ j * (U % V) := by
      rw [val_split _ j (by simp [hdl]; omega), take_mid us ds j _ (by omega), drop_mid us ds j _ (by omega), hdrop]
    have e2 : val us = val (us.take j) + LB ^ j * U := by rw [val_split us j (by omega), hp.1]
    have e3 : val ((qs.set j (U / V)).drop j) = U / V + LB * val (qs.drop (j + 1)) := by
      rw [List.drop_eq_getElem_cons (by simp [h.qlen]; exact hj)]
      simp [List.drop_set_of_lt, val, ofB]
    have e4 := Nat.div_add_mod U V
    rw [e1, e3, h.sum, e2]
    have e5 : LB ^ j * U = V * (LB ^ j * (U / V)) + LB ^ j * (U % V) := by
      rw [Nat.mul_left_comm, ← Nat.mul_add, e4]
    have e6 : LB ^ (j + 1) * val (qs.drop (j + 1)) = LB ^ j * (LB * val (qs.drop (j + 1))) := by rw [Nat.pow_succ, Nat.mul_assoc]
    rw [e5, e6, Nat.mul_add, Nat.mul_add]
    omega
theorem DivN.done (h : DivN A V n m 0 us qs) : val qs = A / V ∧ val us = A % V := by
  have h1 := h.sum
  have h2 := h.less
  rw [List.drop_zero] at h2
  rw [Nat.pow_zero, Nat.one_mul, List.drop_zero] at h1
  have hV0 : 0 < V := by omega
  constructor
  · rw [h1, Nat.mul_add_div hV0, Nat.div_eq_of_lt h2, Nat.add_zero]
  · rw [h1, Nat.mul_add_mod, Nat.mod_eq_of_lt h2]
end
/-- taking a guess: it was the quotient, or one above it -/
theorem take_done {U V g X b d : Nat} (hg1 : U / V ≤ g) (hg2 : g ≤ U / V + 1) (hV : 0 < V) (hd : d < X) (hb : b = 0 ∨ b = 1) (hs : d + g * V = U + X * b) : (b = 0 → g = U / V ∧ d = U % V) ∧ (b = 1 → g = U / V + 1 ∧ (d + V) % X = U % V % X) := by
  have e := Nat.div_add_mod U V
  have hr := Nat.mod_lt U hV
  generalize U / V = q at *
  generalize U % V = r at *
  have hc : V * q = q * V := Nat.mul_comm _ _
  constructor
  · rintro rfl
    rcases (show g = q ∨ g = q + 1 by omega) with rfl | rfl
    · exact ⟨rfl, by omega⟩
    · rw [Nat.succ_mul] at hs; omega
  · rintro rfl
    rcases (show g = q ∨ g = q + 1 by omega) with rfl | rfl
    · omega
    · rw [Nat.succ_mul] at hs
      refine ⟨rfl, ?_⟩
      rw [show d + V = r + X by omega, Nat.add_mod_right]
end Go.Proofs.YtlppcfeimpcbjaaGreat
