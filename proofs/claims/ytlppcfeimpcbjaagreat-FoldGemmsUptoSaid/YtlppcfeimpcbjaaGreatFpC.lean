import Derived.Test.YtlppcfeimpcbjaaGreatFoldF
set_option linter.unusedSimpArgs false
set_option linter.unusedVariables false

/- shape.Fits. -/
namespace Go.Proofs.YtlppcfeimpcbjaaGreat
open Go.RowKit Go.Shelf
attribute [local go_sem] Oper.semAt_some

/-- may the shape xs be laid along ys? -/
abbrev alongP (xs ys : List Int) (i : Nat) : Prop := xs.getD i 0 = 1 ∨ xs.getD i 0 = ys.getD (ys.length - xs.length + i) 0
def fitsE (xs ys : List Int) : Int := if mayS xs ≠ 0 then mayS xs else if mayS ys ≠ 0 then mayS ys else if xs.length ≤ ys.length ∧ ∀ i, i < xs.length → alongP xs ys i then 0 else 13

set_option maxHeartbeats 4000000 in
theorem shfits_t {S T : Nat → Prop} (w : World) (va vb : Value) (xs ys : List Int) (r : Int) (hr : Hid (fitsE xs ys = r)) (ha : Sl Im S w va xs) (hb : Sl Im T w vb ys) :
    Calls Tryz.prog 71 #[va, vb] w fun e w' => e = .returned (.int .i64 r) ∧ Fr (fun k => k < w.heap.size) w w' := by
  obtain ⟨A, c, rfl, _, _, _⟩ := ha.slice
  obtain ⟨B, d, rfl, _, _, _⟩ := hb.slice
  have F := (Fr.refl (fun k => k < w.heap.size) w).alloc (.cells #[.slice A xs.length c, .slice B ys.length d] 23)
  have HA := (ha.low Im_pos).fr F
  have HB := (hb.low Im_pos).fr F
  have hrow := heap_alloc_new w (.cells #[.slice A xs.length c, .slice B ys.length d] 23)
  have c0 := cell_of_row _ _ 0 _ _ (0, 0) hrow
  have c1 := cell_of_row _ _ 1 _ _ (0, 0) hrow
  simp only [List.getElem?_toArray, List.getElem?_cons_zero, List.getElem?_cons_succ] at c0 c1
  clear ha hb hrow
  have P1 := Lib.hid (shmay_calls _ (.slice A xs.length c) xs HA)
  have P2 := Lib.hid (shmay_calls _ (.slice B ys.length d) ys HB)
  replace HA := Lib.hid HA
  replace HB := Lib.hid HB
  obtain ⟨r1, hr1⟩ : ∃ r, mayS xs = r := ⟨_, rfl⟩
  obtain ⟨r2, hr2⟩ : ∃ r, mayS ys = r := ⟨_, rfl⟩
  rw [hr1] at P1
  rw [hr2] at P2
  have HR1 := Lib.hid hr1
  have HR2 := Lib.hid hr2
  clear hr1 hr2
  go_enter Tryz.func71, Tryz.ntmps71
  go_wp2_with fail
  generalize w.alloc (.cells #[.slice A xs.length c, .slice B ys.length d] 23) = W at F HA HB c0 c1 P1 P2 ⊢
  go_loop [15] (fun i => ∃ (k : Nat), k ≤ 2 ∧ i = .int .i64 k ∧ (0 < k → r1 = 0) ∧ (1 < k → r2 = 0)) (fun i => 2 - (intOf i).toNat)
  case atStart => exact ⟨0, by omega, rfl, fun h => by omega, fun h => by omega⟩
  case round =>
    obtain ⟨k, hk, rfl, hk0, hk1⟩ := hrel
    obtain rfl | rfl | rfl : k = 0 ∨ k = 1 ∨ k = 2 := by omega
    · clear hk0 hk1
      go_wp2_with fail
      with_reducible refine P1.out.mono ?_
      rintro e u ⟨rfl, hu⟩
      subst hu
      by_cases h0 : r1 = 0
      · subst h0
        go_wp2_with fail
        go_round
        case rel => exact ⟨1, by omega, rfl, fun _ => by first | rfl | trivial, fun h => by omega⟩
        case measure => first | (simp [intOf]; done) | (simp [intOf]; omega)
      · have HN : r = r1 := hr.out.symm.trans ((if_pos (by rw [HR1.out]; exact h0)).trans HR1.out)
        have hb0 : (r1 == 0) = false := beq_eq_false_iff_ne.2 h0
        go_wp2_with fail
        go_ret
        exact ⟨by first | rfl | (rw [HN]; rfl), F⟩
    · have h1 := hk0 (by omega)
      subst h1
      clear hk0 hk1
      go_wp2_with fail
      with_reducible refine P2.out.mono ?_
      rintro e u ⟨rfl, hu⟩
      subst hu
      by_cases h0 : r2 = 0
      · subst h0
        go_wp2_with fail
        go_round
        case rel => exact ⟨2, by omega, rfl, fun _ => by first | rfl | trivial, fun _ => by first | rfl | trivial⟩
        case measure => first | (simp [intOf]; done) | (simp [intOf]; omega)
      · have HN : r = r2 := hr.out.symm.trans ((if_neg (by rw [HR1.out]; simp)).trans ((if_pos (by rw [HR2.out]; exact h0)).trans HR2.out))
        have hb0 : (r2 == 0) = false := beq_eq_false_iff_ne.2 h0
        go_wp2_with fail
        go_ret
        exact ⟨by first | rfl | (rw [HN]; rfl), F⟩
    · have h1 := hk0 (by omega)
      have h2 := hk1 (by omega)
      subst h1
      subst h2
      clear hk0 hk1 c0 c1 P1 P2
      have hN : r = if xs.length ≤ ys.length ∧ ∀ i, i < xs.length → alongP xs ys i then 0 else 13 := hr.out.symm.trans ((if_neg (by rw [HR1.out]; simp)).trans (if_neg (by rw [HR2.out]; simp)))
      have HN := Lib.hid hN
      clear hN
      have hx4 := (mayS_ok HR1.out).1
      have hy4 := (mayS_ok HR2.out).1
      by_cases hlen : ys.length < xs.length
      · have HNN : r = 13 := HN.out.trans (if_neg fun h => by omega)
        go_wp2_with fail
        go_ret
        exact ⟨by first | rfl | (rw [HNN]; rfl), F⟩
      obtain ⟨g, hg⟩ : ∃ g, ys.length - xs.length = g := ⟨_, rfl⟩
      have hw : IntKind.i64.wrap ((ys.length : Int) - (xs.length : Int)) = (g : Int) := by rw [IntKind.wrap_i64]; omega
      have hgy : g + xs.length = ys.length := by omega
      have HG := Lib.hid hg
      clear hg
      go_wp2_with fail
      clear hw
      go_loop [34] (fun i => ∃ (j : Nat), j ≤ xs.length ∧ i = .int .i64 j ∧ Hid (∀ i, i < j → alongP xs ys i)) (fun i => xs.length - (intOf i).toNat)
      case atStart => exact ⟨0, Nat.zero_le _, rfl, Lib.hid fun i hi => absurd hi (Nat.not_lt_zero _)⟩
      case round =>
        obtain ⟨j, hj, rfl, HP⟩ := hrel
        by_cases hlt : j < xs.length
        · obtain ⟨ad, rfl, hx, hx1, hx2⟩ := Kd.int_cell HA.out (i := j) hlt
          obtain ⟨ae, rfl, hz, hz1, hz2⟩ := Kd.int_cell HB.out (i := g + j) (by omega)
          have HX := Lib.hid (getI_at hlt)
          have HZ := Lib.hid (getI_at (l := ys) (j := g + j) (by omega))
          have hwj : IntKind.i64.wrap ((g : Int) + (j : Int)) = ((g + j : Nat) : Int) := by rw [IntKind.wrap_i64]; omega
          generalize xs[j] = x at hx hx1 hx2 HX
          generalize ys[g + j] = z at hz hz1 hz2 HZ
          have HAL : Hid (alongP xs ys j ↔ x = 1 ∨ x = z) := Lib.hid (by unfold alongP; rw [HG.out, HX.out, HZ.out])
          by_cases h1 : x = 1
          · subst h1
            go_wp2_with fail
            go_round
            case rel => exact ⟨j + 1, by omega, by go_num, Lib.hid fun i hi => by
              rcases Nat.lt_succ_iff_lt_or_eq.1 hi with h | rfl
              · exact HP.out i h
              · exact HAL.out.2 (.inl rfl)⟩
            case measure => first | (simp [intOf]; done) | (simp [intOf]; omega)
          · have hb1 : (x == 1) = false := beq_eq_false_iff_ne.2 h1
            by_cases h2 : x = z
            · subst h2
              go_wp2_with fail
              go_round
              case rel => exact ⟨j + 1, by omega, by go_num, Lib.hid fun i hi => by
                rcases Nat.lt_succ_iff_lt_or_eq.1 hi with h | rfl
                · exact HP.out i h
                · exact HAL.out.2 (.inr rfl)⟩
              case measure => first | (simp [intOf]; done) | (simp [intOf]; omega)
            · have hb2 : (x == z) = false := beq_eq_false_iff_ne.2 h2
              have hc1 : (x != 1) = true := bne_iff_ne.2 h1
              have hc2 : (x != z) = true := bne_iff_ne.2 h2
              have HNN : r = 13 := HN.out.trans (if_neg fun h => by rcases HAL.out.1 (h.2 j hlt) with e | e; exact h1 e; exact h2 e)
              go_wp2_with fail
              go_ret
              exact ⟨by first | rfl | (rw [HNN]; rfl), F⟩
        · obtain rfl : j = xs.length := by omega
          have HNN : r = 0 := HN.out.trans (if_pos ⟨by omega, HP.out⟩)
          go_wp2_with fail
          go_ret
          exact ⟨by first | rfl | (rw [HNN]; rfl), F⟩
end Go.Proofs.YtlppcfeimpcbjaaGreat
