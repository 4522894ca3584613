
/- QuoOwn. -/
import Derived.Test.YtgfjcifggabahaaQuoH
import Derived.Test.YtgfjcifggabahaaQuoS
import Derived.Test.YtgfjcifggabahaaLawOwn
namespace Go.Proofs.Ytgfjcifggabahaa
open Go.RowKit

theorem divmod_any {S T : Nat → Prop} (w : World) (va vb : Value) (A B L K : Nat) (ha : Num S w va A L) (hb : Num T w vb B K) (hl : L ≤ 1048576000) (hk : K ≤ 1048576000) :
    Calls Try.prog 15 #[va, vb] w fun e w' => ∃ q r k dq dr, e = .returned (.tuple #[q, r, .int .i64 k]) ∧ Own Lm 38 (fun k => w.heap.size ≤ k) w' q dq ∧ Own Lm 38 (fun k => w.heap.size ≤ k) w' r dr ∧ Fr (fun k => k < w.heap.size) w w' := by
  rcases Nat.eq_zero_or_pos B with rfl | hB
  · refine (divmod_0 w va vb A L K ha hb hl hk).mono ?_
    rintro e w' ⟨rfl, hf⟩
    exact ⟨_, _, _, [], [], rfl, Own.nil _ _ _ _, Own.nil _ _ _ _, hf⟩
  · refine (divmod_n w va vb A B L K ha hb hB hl hk).mono ?_
    rintro e w' ⟨q, r, rfl, hq, hr, hf⟩
    exact ⟨_, _, _, _, _, rfl, hq.own, hr.own, hf⟩

theorem pow_1 {S : Nat → Prop} (w : World) (va : Value) (A L X : Nat) (ha : Num S w va A L) (hl : L ≤ X) (hX : X ≤ 104857600) (hX2 : 2 ≤ X) :
    Calls Try.prog 27 #[va, .int .i64 1] w fun e w' => ∃ v, e = .returned v ∧ Can (fun k => w.heap.size ≤ k) w' v (A ^ 1) X ∧ Fr (fun k => k < w.heap.size) w w' :=
  pow_n w va A L 1 X ha hl hX (by decide) (by rw [Nat.pow_one]; exact Nat.lt_of_lt_of_le ha.lt (Nat.pow_le_pow_right (by decide) hl)) hX2
theorem qshort_1 {S : Nat → Prop} (w : World) (va : Value) (N L : Nat) (ha : Num S w va N L) (hl : L ≤ 1099511627000) :
    Calls Try.prog 22 #[va, .int .u32 1] w fun e w' => ∃ v, e = .returned (.tuple #[v, .int .u32 ((N % 1 : Nat) : Int), .int .i64 0]) ∧ Can (fun k => w.heap.size ≤ k) w' v (N / 1) L ∧ Fr (fun k => k < w.heap.size) w w' :=
  qshort_n w va N L 1 ha hl (by decide) (by decide)

set_option maxHeartbeats 8000000 in
theorem qown_walk {S : Nat → Prop} (w : World) (va vb : Value) (a b L : Nat) (ha : Num S w va a L) (hb : Num S w vb b L) (hL : L ≤ 1048576) :
    Calls Try.prog 11 #[va, vb] w fun e w' => e = .returned (.bool true) ∧ Fr (fun k => k < w.heap.size) w w' := by
  obtain ⟨xs, ha, _, hxl⟩ := ha
  obtain ⟨ys, hb, _, hyl⟩ := hb
  obtain ⟨A1, c1, rfl, _⟩ := ha.slice
  obtain ⟨A2, c2, rfl, _⟩ := hb.slice
  go_enter Try.func11, Try.ntmps11
  by_cases hg : 20 < xs.length
  · go_wp2_with fail
    refine (qknown_calls _).mono ?_
    rintro e w1 ⟨rfl, hf⟩
    go_wp2_with fail
    go_ret
    exact ⟨rfl, hf⟩
  by_cases hg2 : 20 < ys.length
  · go_wp2_with fail
    refine (qknown_calls _).mono ?_
    rintro e w1 ⟨rfl, hf⟩
    go_wp2_with fail
    go_ret
    exact ⟨rfl, hf⟩
  have N1 := Lib.hid (show (([] : List Nat).length + xs.length) * 4 ≤ 140737488355328 ∧ ([] : List Nat).length + xs.length ≤ 9223372036854775807 by simp; omega)
  have N2 := Lib.hid (show (([] : List Nat).length + ys.length) * 4 ≤ 140737488355328 ∧ ([] : List Nat).length + ys.length ≤ 9223372036854775807 by simp; omega)
  have H1 := Lib.hid (ha.up Lm_pos (Nat.le_refl _) (Fr.refl _ _))
  have H2 := Lib.hid hb
  have H0 := Lib.hid ha
  have hg' : xs.length ≤ 20 := by omega
  have hg2' : ys.length ≤ 20 := by omega
  clear ha hb hxl hyl
  go_wp2_with (at_builtin; first
    | (refine wpList_push (v := .slice none 0 0) lmT rfl rfl rfl rfl (Own.nil Lm 38 (fun k => w.heap.size ≤ k) w) H1.out (fun y cs h => Kd.nat_any (S := fun k => k < w.heap.size) h) (fun k hk => hk) N1.out.1 N1.out.2 ?_; intro vx w1 hx hfr hat; have F := hfr.mono (T := fun k => k < w.heap.size) (fun k _ _ => by simp [Value.ownBlock]); have H3 := Lib.hid ((H2.out.keep' Lm_pos F).up Lm_pos (Nat.le_refl _) (Fr.refl _ _)); clear hfr hat)
    | (refine wpList_push (v := .slice none 0 0) lmT rfl rfl rfl rfl (Own.nil Lm 38 (fun k => w1.heap.size ≤ k) w1) H3.out (fun y cs h => Kd.nat_any (S := fun k => k < w1.heap.size) h) (fun k hk => hk) N2.out.1 N2.out.2 ?_; intro vy w2 hy hfr hat; have F1 := hfr.mono (T := fun k => k < w1.heap.size) (fun k _ _ => by simp [Value.ownBlock]); clear hfr hat))
  have F2 := fr_then F F1
  simp only [List.nil_append] at hx hy
  have sx := (hx.sl.keep' Lm_pos F1).up Lm_pos (Nat.le_refl _) (Fr.refl _ _)
  have sy := hy.sl.up Lm_pos (Nat.le_refl _) (Fr.refl _ _)
  have sa := (H0.out.keep' Lm_pos F2).up Lm_pos (Nat.le_refl _) (Fr.refl _ _)
  have sb := (H2.out.keep' Lm_pos F2).up Lm_pos (Nat.le_refl _) (Fr.refl _ _)
  have hlo := F2.size
  clear hx hy H0 H1 H2 H3 F F1 N1 N2
  refine (divmod_any _ _ _ (val xs) (val ys) 20 20 ⟨xs, sx, rfl, hg'⟩ ⟨ys, sy, rfl, hg2'⟩ (by omega) (by omega)).mono ?_
  rintro e w3 ⟨v3, v4, k3, d3, d4, rfl, h3, h4, hf⟩
  have G := hf
  replace h3 := Vary.of h3 (lo := w2.heap.size) (fun k hk => hk) (Nat.le_refl _)
  replace h4 := Vary.of h4 (lo := w2.heap.size) (fun k hk => hk) (Nat.le_refl _)
  have g3 := G.size
  clear hf
  go_wp2_with fail
  refine (gcd_n _ _ _ (val xs) (val ys) 20 ⟨xs, sx.fr G, rfl, hg'⟩ ⟨ys, sy.fr G, rfl, hg2'⟩ (by omega)).mono ?_
  rintro e w5 ⟨v5, rfl, h5, hf⟩
  replace h5 := Vary.of h5.own (lo := w2.heap.size) (fun k hk => by omega) (Nat.le_refl _)
  have g5 := hf.size
  replace h3 := (h3.fr hf (fun k _ h => h)).up g5
  replace h4 := (h4.fr hf (fun k _ h => h)).up g5
  replace G := fr_then G hf
  clear hf
  go_wp2_with fail
  refine (pow_1 _ _ (val xs) 20 22 ⟨xs, sx.fr G, rfl, hg'⟩ (by omega) (by omega) (by omega)).mono ?_
  rintro e w6 ⟨v6, rfl, h6, hf⟩
  replace h6 := Vary.of h6.own (lo := w2.heap.size) (fun k hk => by omega) (Nat.le_refl _)
  have g6 := hf.size
  replace h3 := (h3.fr hf (fun k _ h => h)).up g6
  replace h4 := (h4.fr hf (fun k _ h => h)).up g6
  replace h5 := (h5.fr hf (fun k _ h => h)).up g6
  replace G := fr_then G hf
  clear hf
  go_wp2_with fail
  refine (qshort_1 _ _ (val xs) 20 ⟨xs, sx.fr G, rfl, hg'⟩ (by omega)).mono ?_
  rintro e w7 ⟨v7, rfl, h7, hf⟩
  replace h7 := Vary.of h7.own (lo := w2.heap.size) (fun k hk => by omega) (Nat.le_refl _)
  have g7 := hf.size
  replace h3 := (h3.fr hf (fun k _ h => h)).up g7
  replace h4 := (h4.fr hf (fun k _ h => h)).up g7
  replace h5 := (h5.fr hf (fun k _ h => h)).up g7
  replace h6 := (h6.fr hf (fun k _ h => h)).up g7
  replace G := fr_then G hf
  clear hf
  obtain ⟨A3, n3, c3, rfl⟩ := h3.form
  obtain ⟨A4, n4, c4, rfl⟩ := h4.form
  obtain ⟨A5, n5, c5, rfl⟩ := h5.form
  obtain ⟨A6, n6, c6, rfl⟩ := h6.form
  obtain ⟨A7, n7, c7, rfl⟩ := h7.form
  have GA := G.alloc (.cells #[.slice A3 n3 c3, .slice A4 n4 c4, .slice A5 n5 c5, .slice A6 n6 c6, .slice A7 n7 c7] 23)
  have hlo8 : w2.heap.size ≤ w7.heap.size := by omega
  have HV : ∃ vs : List Value, vs.length = 5 ∧ (∀ v ∈ vs, Vary w2.heap.size w7.heap.size (w7.alloc (.cells #[.slice A3 n3 c3, .slice A4 n4 c4, .slice A5 n5 c5, .slice A6 n6 c6, .slice A7 n7 c7] 23)) v) ∧
      (w7.alloc (.cells #[.slice A3 n3 c3, .slice A4 n4 c4, .slice A5 n5 c5, .slice A6 n6 c6, .slice A7 n7 c7] 23)).heap[w7.heap.size]? = some (.cells vs.toArray 23 (0, 0)) := by
    refine ⟨[.slice A3 n3 c3, .slice A4 n4 c4, .slice A5 n5 c5, .slice A6 n6 c6, .slice A7 n7 c7], rfl, ?_, heap_alloc_new _ _⟩
    have hfa : Fr (fun _ => True) w7 (w7.alloc (.cells #[.slice A3 n3 c3, .slice A4 n4 c4, .slice A5 n5 c5, .slice A6 n6 c6, .slice A7 n7 c7] 23)) := (Fr.refl _ _).alloc _
    intro v hv
    simp only [List.mem_cons, List.not_mem_nil, or_false] at hv
    rcases hv with rfl | rfl | rfl | rfl | rfl <;> (refine Vary.fr ?_ hfa (fun _ _ _ => trivial); assumption)
  obtain ⟨vs, hvl, hvs, hlb⟩ := HV
  have HV := Lib.hid hvs
  have HL := Lib.hid hlb
  have HVL := Lib.hid hvl
  clear hvs hlb hvl h3 h4 h5 h6 h7 G g3 g5 g6 g7
  go_wp2_with fail
  go_loopw [16, 17] (fun i _ wr => ∃ (n : Nat), i = .int .i64 n ∧ n ≤ 5 ∧ (∀ v ∈ vs, Vary w2.heap.size w7.heap.size wr v) ∧ wr.heap[w7.heap.size]? = some (.cells vs.toArray 23 (0, 0)) ∧ Fr (fun k => k < w2.heap.size) w2 wr) (fun i _ _ => 5 - (intOf i).toNat)
  case atStart => exact ⟨0, rfl, by omega, HV.out, HL.out, GA⟩
  case round =>
    clear HV HL GA
    obtain ⟨n, rfl, hn, hvs, hlb, G⟩ := hrel
    by_cases hlt : n < 5
    · have hnv : n < vs.length := by rw [HVL.out]; exact hlt
      have hc0 : wr.cell? ⟨w7.heap.size, n, none⟩ = some vs[n] := by
        rw [cell_of_row wr w7.heap.size n _ _ (0, 0) hlb]; simp [hnv]
      clear hc0
      obtain ⟨Av, nv, cv, hv⟩ := (hvs _ (List.getElem_mem hnv)).form
      have hmem := List.getElem_mem hnv
      have hc0 : ∀ W : World, W.heap[w7.heap.size]? = some (.cells vs.toArray 23 (0, 0)) → W.cell? ⟨w7.heap.size, n, none⟩ = some (.slice Av nv cv) := fun W h => by
        rw [cell_of_row W w7.heap.size n _ _ (0, 0) h]; simp [hnv, hv]
      rw [hv] at hmem
      have HC := Lib.hid hc0
      have HV1 := Lib.hid hvs
      have HL1 := Lib.hid hlb
      clear hc0 hv hvs hlb
      go_wp2_with fail
      go_loopw [17] (fun k W => ∃ (m : Nat), k = .int .i64 m ∧ Hid (∀ v ∈ vs, Vary w2.heap.size w7.heap.size W v) ∧ Hid (W.heap[w7.heap.size]? = some (.cells vs.toArray 23 (0, 0))) ∧ Fr (fun k => k < w2.heap.size) w2 W) (fun k _ => nv - (intOf k).toNat)
      case atStart => exact ⟨0, rfl, HV1, HL1, G⟩
      case round =>
        clear HV1 HL1 G
        obtain ⟨m, rfl, HV1, HL1, G⟩ := hrel
        have hl1 := HC.out _ HL1.out
        by_cases hm : m < nv
        · rcases HV1.out _ hmem with h | ⟨g, n', c', h1, h2, h3, h4, cur, h5, h6⟩
          · cases h; omega
          cases h1
          obtain ⟨z, hz, hzl⟩ := h6 m hm
          have hz1 : wr.drew.cell? ⟨g, m, none⟩ = some (.int .u32 (z : Int)) := (cell_of_row wr g m cur 38 (0, 0) h5).trans hz
          have hfz : wr.drew.frozen? ⟨g, m, none⟩ = false := frozen_of_row wr g m cur 38 h5
          have hl2 : wr.drew.cell? ⟨w7.heap.size, n, none⟩ = some (.slice (some ⟨g, 0, none⟩) nv cv) := hl1
          obtain ⟨y, hy⟩ : ∃ y, y = (z + 1) % 4294967296 := ⟨_, rfl⟩
          have hwrap : IntKind.u32.wrap ((z : Int) + 1) = (y : Int) := by rw [hy]; simp [IntKind.wrap, IntKind.signed, IntKind.bits]
          have hyl : y < LB := by rw [hy]; unfold LB; omega
          have HN := Lib.hid (show ∀ v ∈ vs, Vary w2.heap.size w7.heap.size (wr.setCell ⟨g, m, none⟩ (.int .u32 (y : Int))).drew v from fun v hv => ((HV1.out v hv).set g m y hyl).fr ((Fr.refl (fun _ => True) _).drew) (fun _ _ _ => trivial))
          have HLN := Lib.hid (show (wr.setCell ⟨g, m, none⟩ (.int .u32 (y : Int))).drew.heap[w7.heap.size]? = some (.cells vs.toArray 23 (0, 0)) from (Below.heap_setCell wr ⟨g, m, none⟩ _ w7.heap.size (by simp; omega)).trans HL1.out)
          have GN : Fr (fun k => k < w2.heap.size) w2 (wr.setCell ⟨g, m, none⟩ (.int .u32 (y : Int))).drew := (G.setCell (fun _ => by simp; omega) _).drew
          clear hy hz h5 h6 HV1 HL1 G HC
          go_wp2_with fail
          go_region
          all_goals
            go_wp2_with fail
            go_roundw
            case rel => exact ⟨m + 1, by go_num, HN, HLN, GN⟩
            case measure => first | (simp [intOf]; done) | (simp [intOf]; omega)
        · go_wp2_with fail
          go_roundw
          case rel => exact ⟨n + 1, by go_num, by omega, HV1.out, HL1.out, G⟩
          case measure => first | (simp [intOf]; done) | (simp [intOf]; omega)
    · obtain rfl : n = 5 := by omega
      clear hvs hlb HVL
      obtain ⟨X1, e1, rfl, _⟩ := sx.slice
      obtain ⟨Y1, e2, rfl, _⟩ := sy.slice
      go_wp2_with fail
      go_loopw [18] (fun i W => ∃ (n : Nat), i = .int .i64 n ∧ n ≤ xs.length ∧ Fr (fun k => k < w2.heap.size) w2 W) (fun i _ => xs.length - (intOf i).toNat)
      case atStart => exact ⟨0, rfl, by omega, G⟩
      case round =>
        clear G
        obtain ⟨n, rfl, hn, G⟩ := hrel
        by_cases hlt : n < xs.length
        · replace G := G.drew
          obtain ⟨ad, rfl, hx, _⟩ := Kd.nat_cell (sx.fr G) (i := n) hlt
          obtain ⟨ad', rfl, hy, _⟩ := Kd.nat_cell (sa.fr G) (i := n) hlt
          generalize xs[n] = z at hx hy
          go_wp2_with fail
          go_region
          all_goals
            go_wp2_with fail
            go_roundw
            case rel => exact ⟨n + 1, by go_num, by omega, G⟩
            case measure => first | (simp [intOf]; done) | (simp [intOf]; omega)
        · go_wp2_with fail
          go_loopw [19] (fun i W => ∃ (n : Nat), i = .int .i64 n ∧ n ≤ ys.length ∧ Fr (fun k => k < w2.heap.size) w2 W) (fun i _ => ys.length - (intOf i).toNat)
          case atStart => exact ⟨0, rfl, by omega, G⟩
          case round =>
            clear G
            obtain ⟨m, rfl, hm, G⟩ := hrel
            by_cases hlt : m < ys.length
            · replace G := G.drew
              obtain ⟨ad, rfl, hx, _⟩ := Kd.nat_cell (sy.fr G) (i := m) hlt
              obtain ⟨ad', rfl, hy, _⟩ := Kd.nat_cell (sb.fr G) (i := m) hlt
              generalize ys[m] = z at hx hy
              go_wp2_with fail
              go_region
              all_goals
                go_wp2_with fail
                go_roundw
                case rel => exact ⟨m + 1, by go_num, by omega, G⟩
                case measure => first | (simp [intOf]; done) | (simp [intOf]; omega)
            · go_wp2_with fail
              refine (qknown_calls _).mono ?_
              rintro e w9 ⟨rfl, hf⟩
              go_wp2_with fail
              go_ret
              exact ⟨rfl, fr_then (fr_then F2 G) hf⟩
end Go.Proofs.Ytgfjcifggabahaa
