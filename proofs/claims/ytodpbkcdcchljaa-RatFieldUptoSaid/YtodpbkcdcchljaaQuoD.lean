
/- quo.take, back. -/
import Derived.Test.YtodpbkcdcchljaaQuoB
import Derived.Test.YtodpbkcdcchljaaQuoC
namespace Go.Proofs.Ytodpbkcdcchljaa
open Go.RowKit

theorem set_mid (us ds : List Nat) (j d : Nat) (h : j + ds.length < us.length) : (us.take j ++ ds ++ us.drop (j + ds.length)).set (j + ds.length) d = us.take j ++ (ds ++ [d]) ++ us.drop (j + (ds.length + 1)) := by
  have hl : (us.take j ++ ds).length = j + ds.length := by simp; omega
  rw [List.set_append_right _ _ (by omega), hl, Nat.sub_self, List.drop_eq_getElem_cons h]
  simp [List.append_assoc, Nat.add_assoc]
theorem get_mid (us ds : List Nat) (j : Nat) (h : j + ds.length < us.length) (h2 : j + ds.length < (us.take j ++ ds ++ us.drop (j + ds.length)).length) : (us.take j ++ ds ++ us.drop (j + ds.length))[j + ds.length] = us[j + ds.length] := by
  have hl : (us.take j ++ ds).length = j + ds.length := by simp; omega
  rw [List.getElem_append_right (by omega)]
  simp [hl]
theorem len_mid (us ds : List Nat) (j : Nat) (h : j + ds.length ≤ us.length) : (us.take j ++ ds ++ us.drop (j + ds.length)).length = us.length := by simp; omega

structure TakeN (part vs : List Nat) (q i : Nat) (ds : List Nat) (bw cy : Nat) : Prop where
  len : ds.length = i
  small : ∀ d ∈ ds, d < LB
  lent : bw ≤ 1
  carry : cy = 0 ∨ cy + 1 ≤ q
  sum : ofB LB ds + q * sumTo LB (fun k => vs.getD k 0) i = sumTo LB (fun k => part.getD k 0) i + LB ^ i * (bw + cy)
theorem TakeN.step {part vs : List Nat} {q i : Nat} {ds : List Nat} {bw cy d b' : Nat} (h : TakeN part vs q i ds bw cy) (hq : q ≤ LB) (hv : ∀ d ∈ vs, d < LB) (hd : d < LB) (hb : b' ≤ 1)
    (e : d + (q * vs.getD i 0 + cy) % LB + bw = part.getD i 0 + LB * b') : TakeN part vs q (i + 1) (ds ++ [d]) b' ((q * vs.getD i 0 + cy) / LB) := by
  obtain ⟨h1, h2, h3, h4, h5⟩ := h
  have hx : vs.getD i 0 < LB := by
    rw [List.getD_eq_getElem?_getD]
    cases hx : vs[i]? with
    | none => exact LBpos
    | some d => exact hv d (List.mem_of_getElem? hx)
  refine ⟨by simp [h1], ?_, hb, ?_, ?_⟩
  · intro x hx'
    rcases List.mem_append.1 hx' with hm | hm
    · exact h2 x hm
    · simp at hm; subst hm; exact hd
  · rcases Nat.eq_zero_or_pos q with rfl | hp
    · left
      have : cy = 0 := by omega
      subst this
      simp
    · right
      have h6 : q * vs.getD i 0 ≤ q * (LB - 1) := Nat.mul_le_mul_left q (by omega)
      have h7 : q * (LB - 1) + q = q * LB := by rw [← Nat.mul_succ]; congr 1
      have h8 : (q * vs.getD i 0 + cy) / LB < q := Nat.div_lt_of_lt_mul (by rw [Nat.mul_comm LB]; omega)
      omega
  · have e1 := Nat.mod_add_div (q * vs.getD i 0 + cy) LB
    generalize (q * vs.getD i 0 + cy) % LB = lo at e e1
    generalize (q * vs.getD i 0 + cy) / LB = hi at e1
    rw [ofB_snoc, sumTo, sumTo, h1, Nat.pow_succ, Nat.mul_add, Nat.mul_left_comm q (LB ^ i)]
    generalize q * vs.getD i 0 = qv at e1
    have e4 : d + qv + (bw + cy) = part.getD i 0 + LB * (b' + hi) := by rw [Nat.mul_add]; omega
    have e5 := congrArg (fun n => LB ^ i * n) e4
    simp only [Nat.mul_add] at e5 h5
    rw [Nat.mul_assoc, Nat.mul_add, Nat.mul_add]
    omega

set_option maxHeartbeats 2000000 in
theorem take_calls (w : World) (g j c : Nat) (vv : Value) (us vs : List Nat) (q : Nat) (hrow : URow w g us) (hus : ∀ d ∈ us, d < LB) (hv : Sl Lm (fun k => k ≠ g) w vv vs) (hj : j + (vs.length + 1) ≤ us.length) (hq : q ≤ LB) (hul : us.length ≤ 1099511627000) :
    Calls Try.prog 96 #[.slice (some ⟨g, j, none⟩) (vs.length + 1) c, vv, .int .u64 q] w fun e w' => ∃ (ds : List Nat) (b : Bool), e = .returned (.bool b) ∧ ds.length = vs.length + 1 ∧ (∀ d ∈ ds, d < LB) ∧
      URow w' g (us.take j ++ ds ++ us.drop (j + (vs.length + 1))) ∧ ofB LB ds + q * val vs = val ((us.drop j).take (vs.length + 1)) + LB ^ (vs.length + 1) * (if b then 1 else 0) ∧ Fr (fun k => k ≠ g) w w' := by
  have hvd := Kd.nat_all hv
  obtain ⟨A', c', rfl, _, _, hly⟩ := hv.slice
  obtain ⟨part, hpart⟩ : ∃ part, part = (us.drop j).take (vs.length + 1) := ⟨_, rfl⟩
  have hpl : part.length = vs.length + 1 := by rw [hpart]; simp; omega
  have hpg : ∀ i, i < vs.length + 1 → ∀ h : j + i < us.length, part.getD i 0 = us[j + i] := fun i hi h => by
    rw [hpart, List.getD_eq_getElem?_getD, List.getElem?_take, if_pos hi, List.getElem?_drop, List.getElem?_eq_getElem h]; rfl
  rw [← hpart]
  have hq' : q ≤ 4294967296 := hq
  have HV := Lib.hid hv
  have HP := Lib.hid (And.intro hpart (And.intro hpl hpg))
  clear hpart hpl hpg hv
  go_enter Try.func96, Try.ntmps96
  go_wp2_with fail
  go_loopw [7, 8, 9, 10, 11, 14] (fun cy bw _ _ _ i wr => ∃ (k cv bv : Nat) (ds : List Nat), k ≤ vs.length ∧ i = .int .i64 k ∧ cy = .int .u64 cv ∧ bw = .int .u32 bv ∧ TakeN part vs q k ds bv cv ∧ URow wr g (us.take j ++ ds ++ us.drop (j + k)) ∧ Fr (fun k => k ≠ g) w wr) (fun _ _ _ _ _ i _ => vs.length - (intOf i).toNat)
  case atStart => exact ⟨0, 0, 0, [], Nat.zero_le _, rfl, rfl, rfl, ⟨rfl, by simp, by omega, .inl rfl, by simp [sumTo, ofB]⟩, by simpa using hrow, Fr.refl _ _⟩
  case round =>
    obtain ⟨k, cv, bv, ds, hk, rfl, rfl, rfl, hN, hr, hfr⟩ := hrel
    have hlen := hN.len
    have hb1 := hN.lent
    have hcv := hN.carry
    by_cases hlt : k < vs.length
    · have hvw := HV.out.fr hfr
      obtain ⟨ad, rfl, hx, hxm⟩ := Kd.nat_cell hvw (i := k) hlt
      have ex : vs.getD k 0 = vs[k] := by rw [List.getD_eq_getElem?_getD, List.getElem?_eq_getElem hlt]; rfl
      have ea := HP.out.2.2 k (by omega) (by omega)
      have hjk : j + k < us.length := by omega
      have hcl := len_mid us ds j (by omega)
      rw [hlen] at hcl
      have hcell := hr.cell (j := j + k) (by rw [hcl]; omega)
      have hgm := get_mid us ds j (by omega) (by rw [hlen, hcl]; omega)
      simp only [hlen] at hgm
      rw [hgm] at hcell
      have hst := fun d b' => hN.step (d := d) (b' := b') hq hvd
      rw [ex, ea] at hst
      have ham : us[j + k] < LB := hus _ (List.getElem_mem hjk)
      generalize us[j + k] = a at hcell hst ham ea hgm
      generalize vs[k] = x at hx hxm hst ex
      have hx' : x < 4294967296 := hxm
      have ha' : a < 4294967296 := ham
      have hfree := hr.free (j + k)
      have hglt := hr.lt
      have hp : q * x ≤ 4294967296 * 4294967295 := Nat.mul_le_mul hq' (by omega)
      have hcv' : cv < 4294967296 := by omega
      obtain ⟨P, hP⟩ : ∃ P, P = q * x + cv := ⟨_, rfl⟩
      rw [← hP] at hst
      have p1 := sub32_calls wr a (P % 4294967296) bv ham (by unfold LB; omega) hb1
      rw [show ((P % 4294967296 : Nat) : Int) = ((q : Int) * (x : Int) + (cv : Int)) % 4294967296 from by rw [hP]; simp] at p1
      have hadd : (⟨g, j, none⟩ : Addr).add k = ⟨g, j + k, none⟩ := by simp [Addr.add]
      have HST := Lib.hid hst
      have HPP := Lib.hid (And.intro hP (And.intro ea ex))
      have P1 := Lib.hid p1
      have HR := Lib.hid hr
      have HL := Lib.hid hlen
      clear hst hP ea ex p1 hr hlen hcl hgm
      go_wp2_with ((with_reducible refine P1.out.mono ?_); rintro e w2 ⟨⟨d, b', rfl, hd, hb', hsum⟩, rfl⟩)
      have hsum' : d + P % LB + bv = a + LB * b' := hsum
      have hset := HR.out.set (j + k) d
      have hmid := set_mid us ds j d (by rw [HL.out]; exact hjk)
      simp only [HL.out] at hmid
      rw [hmid] at hset
      have hw : Fr (fun k => k ≠ g) w (w2.setCell ⟨g, j + k, none⟩ (.int .u32 (d : Int))) := hfr.setCell (p := ⟨g, j + k, none⟩) (fun _ h => h rfl) _
      have HN := Lib.hid (HST.out d b' hd hb' hsum')
      clear hsum hsum' hmid
      go_wp2_with fail
      go_roundw
      case rel => exact ⟨k + 1, P / LB, b', _, hlt, by go_num, by rw [HPP.out.1]; go_num, rfl, HN.out, hset, hw⟩
      case measure => first | (simp [intOf]; done) | (simp [intOf]; omega)
    · obtain rfl : k = vs.length := by omega
      have ea := HP.out.2.2 vs.length (by omega) (by omega)
      have hjk : j + vs.length < us.length := by omega
      have hcl := len_mid us ds j (by omega)
      rw [hlen] at hcl
      have hcell := hr.cell (j := j + vs.length) (by rw [hcl]; omega)
      have hgm := get_mid us ds j (by omega) (by rw [hlen, hcl]; omega)
      simp only [hlen] at hgm
      rw [hgm] at hcell
      have ham : us[j + vs.length] < LB := hus _ (List.getElem_mem hjk)
      generalize us[j + vs.length] = a at hcell ham ea hgm
      have hfree := hr.free (j + vs.length)
      have hglt := hr.lt
      have hcv' : cv < 4294967296 := by omega
      have ha' : a < 4294967296 := ham
      have p1 := sub32_calls wr a cv bv ham (by unfold LB; omega) hb1
      have hadd : (⟨g, j, none⟩ : Addr).add vs.length = ⟨g, j + vs.length, none⟩ := by simp [Addr.add]
      have P1 := Lib.hid p1
      have HR := Lib.hid hr
      have HL := Lib.hid (And.intro hlen ea)
      have hvl : vs.length < vs.length + 1 := Nat.lt_succ_self _
      clear p1 hr hcl hgm hlen ea
      go_wp2_with fail
      refine P1.out.mono ?_
      rintro e w2 ⟨⟨d, b', rfl, hd, hb', hsum⟩, rfl⟩
      have hset := HR.out.set (j + vs.length) d
      have hmid := set_mid us ds j d (by rw [HL.out.1]; exact hjk)
      simp only [HL.out.1] at hmid
      rw [hmid] at hset
      have hw : Fr (fun k => k ≠ g) w (w2.setCell ⟨g, j + vs.length, none⟩ (.int .u32 (d : Int))) := hfr.setCell (p := ⟨g, j + vs.length, none⟩) (fun _ h => h rfl) _
      have hfin : ofB LB (ds ++ [d]) + q * val vs = val part + LB ^ (vs.length + 1) * b' := by
        have h1 := hN.sum
        have h2 : val part = sumTo LB (fun k => part.getD k 0) vs.length + LB ^ vs.length * a := by
          rw [← HL.out.2]
          show ofB LB part = _
          rw [← sumTo_all LB part (vs.length + 1) (by rw [HP.out.2.1]; exact Nat.le_refl _)]
          rfl
        rw [sumTo_all LB vs vs.length (Nat.le_refl _)] at h1
        have h1' : ofB LB ds + q * val vs = sumTo LB (fun k => part.getD k 0) vs.length + LB ^ vs.length * (bv + cv) := h1
        have h3 := congrArg (fun n => LB ^ vs.length * n) hsum
        simp only [Nat.mul_add] at h3 h1'
        rw [ofB_snoc, HL.out.1, h2, Nat.pow_succ, Nat.mul_assoc]
        omega
      have hsm : ∀ d' ∈ ds ++ [d], d' < LB := by
        intro x hx'
        rcases List.mem_append.1 hx' with hm | hm
        · exact hN.small x hm
        · simp at hm; subst hm; exact hd
      have HF := Lib.hid (And.intro hfin (And.intro hsm (show (ds ++ [d]).length = vs.length + 1 by simp [HL.out.1])))
      clear hfin hsm hmid hsum
      rcases (show b' = 0 ∨ b' = 1 by omega) with rfl | rfl
      · go_wp2_with fail
        go_ret
        exact ⟨ds ++ [d], false, rfl, HF.out.2.2, HF.out.2.1, hset, HF.out.1, hw⟩
      · go_wp2_with fail
        go_ret
        exact ⟨ds ++ [d], true, rfl, HF.out.2.2, HF.out.2.1, hset, HF.out.1, hw⟩

structure BackN (part vs : List Nat) (i : Nat) (ds : List Nat) (cy : Nat) : Prop where
  len : ds.length = i
  small : ∀ d ∈ ds, d < LB
  carry : cy ≤ 1
  sum : ofB LB ds + LB ^ i * cy = sumTo LB (fun k => part.getD k 0) i + sumTo LB (fun k => vs.getD k 0) i
theorem BackN.step {part vs : List Nat} {i : Nat} {ds : List Nat} {cy : Nat} (h : BackN part vs i ds cy) (hp : part.getD i 0 < LB) (hv : vs.getD i 0 < LB) :
    BackN part vs (i + 1) (ds ++ [(part.getD i 0 + vs.getD i 0 + cy) % LB]) ((part.getD i 0 + vs.getD i 0 + cy) / LB) := by
  obtain ⟨h1, h2, h3, h4⟩ := h
  refine ⟨by simp [h1], ?_, ?_, ?_⟩
  · intro x hx'
    rcases List.mem_append.1 hx' with hm | hm
    · exact h2 x hm
    · simp at hm; subst hm; exact Nat.mod_lt _ LBpos
  · have : (part.getD i 0 + vs.getD i 0 + cy) / LB < 2 := Nat.div_lt_of_lt_mul (by omega)
    omega
  · have e := Nat.mod_add_div (part.getD i 0 + vs.getD i 0 + cy) LB
    generalize (part.getD i 0 + vs.getD i 0 + cy) % LB = lo at e
    generalize (part.getD i 0 + vs.getD i 0 + cy) / LB = hi at e
    have e5 := congrArg (fun n => LB ^ i * n) e
    simp only [Nat.mul_add] at e5
    rw [ofB_snoc, sumTo, sumTo, h1, Nat.pow_succ, Nat.mul_assoc]
    omega

set_option maxHeartbeats 2000000 in
theorem back_calls (w : World) (g j c : Nat) (vv : Value) (us vs : List Nat) (hrow : URow w g us) (hus : ∀ d ∈ us, d < LB) (hv : Sl Lm (fun k => k ≠ g) w vv vs) (hj : j + (vs.length + 1) ≤ us.length) (hul : us.length ≤ 1099511627000) :
    Calls Try.prog 97 #[.slice (some ⟨g, j, none⟩) (vs.length + 1) c, vv] w fun e w' => e = .returned (.tuple #[]) ∧ ∃ (ds : List Nat), ds.length = vs.length + 1 ∧ (∀ d ∈ ds, d < LB) ∧
      URow w' g (us.take j ++ ds ++ us.drop (j + (vs.length + 1))) ∧ ofB LB ds = (val ((us.drop j).take (vs.length + 1)) + val vs) % LB ^ (vs.length + 1) ∧ Fr (fun k => k ≠ g) w w' := by
  have hvd := Kd.nat_all hv
  obtain ⟨A', c', rfl, _, _, hly⟩ := hv.slice
  obtain ⟨part, hpart⟩ : ∃ part, part = (us.drop j).take (vs.length + 1) := ⟨_, rfl⟩
  have hpl : part.length = vs.length + 1 := by rw [hpart]; simp; omega
  have hpg : ∀ i, i < vs.length + 1 → ∀ h : j + i < us.length, part.getD i 0 = us[j + i] := fun i hi h => by
    rw [hpart, List.getD_eq_getElem?_getD, List.getElem?_take, if_pos hi, List.getElem?_drop, List.getElem?_eq_getElem h]; rfl
  rw [← hpart]
  have HV := Lib.hid hv
  have HP := Lib.hid (And.intro hpart (And.intro hpl hpg))
  clear hpart hpl hpg hv
  go_enter Try.func97, Try.ntmps97
  go_wp2_with fail
  go_loopw [4, 5, 6, 9] (fun cy _ _ i wr => ∃ (k cv : Nat) (ds : List Nat), k ≤ vs.length ∧ i = .int .i64 k ∧ cy = .int .u32 cv ∧ BackN part vs k ds cv ∧ URow wr g (us.take j ++ ds ++ us.drop (j + k)) ∧ Fr (fun k => k ≠ g) w wr) (fun _ _ _ i _ => vs.length - (intOf i).toNat)
  case atStart => exact ⟨0, 0, [], Nat.zero_le _, rfl, rfl, ⟨rfl, by simp, by omega, by simp [sumTo, ofB]⟩, by simpa using hrow, Fr.refl _ _⟩
  case round =>
    obtain ⟨k, cv, ds, hk, rfl, rfl, hN, hr, hfr⟩ := hrel
    have hlen := hN.len
    have hb1 := hN.carry
    by_cases hlt : k < vs.length
    · have hvw := HV.out.fr hfr
      obtain ⟨ad, rfl, hx, hxm⟩ := Kd.nat_cell hvw (i := k) hlt
      have ex : vs.getD k 0 = vs[k] := by rw [List.getD_eq_getElem?_getD, List.getElem?_eq_getElem hlt]; rfl
      have ea := HP.out.2.2 k (by omega) (by omega)
      have hjk : j + k < us.length := by omega
      have hcl := len_mid us ds j (by omega)
      rw [hlen] at hcl
      have hcell := hr.cell (j := j + k) (by rw [hcl]; omega)
      have hgm := get_mid us ds j (by omega) (by rw [hlen, hcl]; omega)
      simp only [hlen] at hgm
      rw [hgm] at hcell
      have ham : us[j + k] < LB := hus _ (List.getElem_mem hjk)
      have hst := hN.step (by rw [ea]; exact ham) (by rw [ex]; exact hxm)
      rw [ex, ea] at hst
      generalize us[j + k] = a at hcell hst ham ea hgm
      generalize vs[k] = x at hx hxm hst ex
      have hx' : x < 4294967296 := hxm
      have ha' : a < 4294967296 := ham
      have hfree := hr.free (j + k)
      have hglt := hr.lt
      have p1 := add32_calls wr a x cv ham hxm (by unfold LB; omega)
      have hadd : (⟨g, j, none⟩ : Addr).add k = ⟨g, j + k, none⟩ := by simp [Addr.add]
      obtain ⟨lo, hlo⟩ : ∃ lo, lo = (a + x + cv) % LB := ⟨_, rfl⟩
      obtain ⟨hi, hhi⟩ : ∃ hi, hi = (a + x + cv) / LB := ⟨_, rfl⟩
      rw [← hlo, ← hhi] at p1 hst
      have HST := Lib.hid hst
      have HPP := Lib.hid (And.intro hlo (And.intro hhi (And.intro ea ex)))
      have P1 := Lib.hid p1
      have HR := Lib.hid hr
      have HL := Lib.hid hlen
      clear hst hlo hhi ea ex p1 hr hlen hcl hgm
      go_wp2_with ((with_reducible refine P1.out.mono ?_); rintro e w2 ⟨rfl, rfl⟩)
      have hset := HR.out.set (j + k) lo
      have hmid := set_mid us ds j lo (by rw [HL.out]; exact hjk)
      simp only [HL.out] at hmid
      rw [hmid] at hset
      have hw : Fr (fun k => k ≠ g) w (w2.setCell ⟨g, j + k, none⟩ (.int .u32 (lo : Int))) := hfr.setCell (p := ⟨g, j + k, none⟩) (fun _ h => h rfl) _
      clear hmid
      go_wp2_with fail
      go_roundw
      case rel => exact ⟨k + 1, hi, _, hlt, by go_num, rfl, HST.out, hset, hw⟩
      case measure => first | (simp [intOf]; done) | (simp [intOf]; omega)
    · obtain rfl : k = vs.length := by omega
      have ea := HP.out.2.2 vs.length (by omega) (by omega)
      have hjk : j + vs.length < us.length := by omega
      have hcl := len_mid us ds j (by omega)
      rw [hlen] at hcl
      have hcell := hr.cell (j := j + vs.length) (by rw [hcl]; omega)
      have hgm := get_mid us ds j (by omega) (by rw [hlen, hcl]; omega)
      simp only [hlen] at hgm
      rw [hgm] at hcell
      have ham : us[j + vs.length] < LB := hus _ (List.getElem_mem hjk)
      generalize us[j + vs.length] = a at hcell ham ea hgm
      have hfree := hr.free (j + vs.length)
      have hglt := hr.lt
      have ha' : a < 4294967296 := ham
      have hadd : (⟨g, j, none⟩ : Addr).add vs.length = ⟨g, j + vs.length, none⟩ := by simp [Addr.add]
      have HR := Lib.hid hr
      have HL := Lib.hid (And.intro hlen ea)
      have hvl : vs.length < vs.length + 1 := Nat.lt_succ_self _
      clear hr hcl hgm hlen ea
      go_wp2_with fail
      obtain ⟨d, hd⟩ : ∃ d, d = (a + cv) % LB := ⟨_, rfl⟩
      have hdi : ((a : Int) + (cv : Int)) % 4294967296 = (d : Int) := by rw [hd]; unfold LB; omega
      rw [hdi]
      have hdl : d < LB := by rw [hd]; exact Nat.mod_lt _ LBpos
      have hset := HR.out.set (j + vs.length) d
      have hmid := set_mid us ds j d (by rw [HL.out.1]; exact hjk)
      simp only [HL.out.1] at hmid
      rw [hmid] at hset
      have hw : Fr (fun k => k ≠ g) w (wr.setCell ⟨g, j + vs.length, none⟩ (.int .u32 (d : Int))) := hfr.setCell (p := ⟨g, j + vs.length, none⟩) (fun _ h => h rfl) _
      have hsm : ∀ d' ∈ ds ++ [d], d' < LB := by
        intro x hx'
        rcases List.mem_append.1 hx' with hm | hm
        · exact hN.small x hm
        · simp at hm; subst hm; exact hdl
      have hlen1 : (ds ++ [d]).length = vs.length + 1 := by simp [HL.out.1]
      have hfin : ofB LB (ds ++ [d]) = (val part + val vs) % LB ^ (vs.length + 1) := by
        have h1 := hN.sum
        have h2 : val part = sumTo LB (fun k => part.getD k 0) vs.length + LB ^ vs.length * a := by
          rw [← HL.out.2]
          show ofB LB part = _
          rw [← sumTo_all LB part (vs.length + 1) (by rw [HP.out.2.1]; exact Nat.le_refl _)]
          rfl
        rw [sumTo_all LB vs vs.length (Nat.le_refl _)] at h1
        have h1' : ofB LB ds + LB ^ vs.length * cv = sumTo LB (fun k => part.getD k 0) vs.length + val vs := h1
        have h3 := Nat.mod_add_div (a + cv) LB
        rw [← hd] at h3
        have h4 := congrArg (fun n => LB ^ vs.length * n) h3
        simp only [Nat.mul_add] at h4
        have h5 := ofB_lt hsm
        rw [hlen1] at h5
        have h6 : val part + val vs = ofB LB (ds ++ [d]) + LB ^ (vs.length + 1) * ((a + cv) / LB) := by
          rw [ofB_snoc, HL.out.1, h2, Nat.pow_succ, Nat.mul_assoc]
          omega
        rw [h6, Nat.add_mul_mod_self_left, Nat.mod_eq_of_lt h5]
      go_end0
      exact ⟨rfl, ds ++ [d], hlen1, hsm, hset, hfin, hw⟩
end Go.Proofs.Ytodpbkcdcchljaa
