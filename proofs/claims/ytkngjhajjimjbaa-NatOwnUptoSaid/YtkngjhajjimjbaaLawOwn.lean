/- NatOwn. -/
import Derived.Test.YtkngjhajjimjbaaNum
namespace Go.Proofs.Ytkngjhajjimjbaa
open Go.RowKit

/-- Limbs that may vary: a slice of the call's own, in a block between two bounds, of whatever limbs. -/
def Vary (lo hi : Nat) (w : World) (v : Value) : Prop := v = .slice none 0 0 ∨ ∃ g n c, v = .slice (some ⟨g, 0, none⟩) n c ∧ lo ≤ g ∧ g < hi ∧ n ≤ 9223372036854775807 ∧
  ∃ cur : Array Value, w.heap[g]? = some (.cells cur 56 (0, 0)) ∧ ∀ j, j < n → ∃ z : Nat, cur[j]? = some (.int .u32 (z : Int)) ∧ z < LB
theorem Vary.of {lo hi : Nat} {S : Nat → Prop} {w : World} {v : Value} {xs : List Nat} (h : Own Lm 56 S w v xs) (hS : ∀ k, S k → lo ≤ k) (hh : w.heap.size ≤ hi) : Vary lo hi w v := by
  have hlt := h.lt
  obtain ⟨cells, ⟨hl, h1⟩, h2, h3⟩ := h
  rcases h1 with ⟨rfl, _⟩ | ⟨g, cap, cur, rfl, _, hg, hcap, hmax, hsz, htk⟩
  · exact .inl rfl
  · refine .inr ⟨g, xs.length, cap, rfl, hS _ (h2 g rfl), Nat.lt_of_lt_of_le (hlt g rfl) hh, by unfold maxLen at hmax; omega, cur, hg, fun j hj => ?_⟩
    obtain ⟨cs, ⟨rfl, hz⟩, hc⟩ := h3 j xs[j] (List.getElem?_eq_getElem hj)
    have h5 := hc 0 _ rfl
    refine ⟨xs[j], ?_, hz⟩
    rw [← htk, List.getElem?_take] at h5
    split at h5
    · simpa [Lm, Kd.nat] using h5
    · cases h5
theorem Vary.fr {lo hi : Nat} {S : Nat → Prop} {w w' : World} {v : Value} (h : Vary lo hi w v) (hf : Fr S w w') (hS : ∀ k, lo ≤ k → k < hi → S k) : Vary lo hi w' v := by
  rcases h with h | ⟨g, n, c, h1, h2, h3, h4, cur, h5, h6⟩
  · exact .inl h
  · exact .inr ⟨g, n, c, h1, h2, h3, h4, cur, hf.obj h5 (hS g h2 h3), h6⟩
theorem Vary.up {lo hi hi' : Nat} {w : World} {v : Value} (h : Vary lo hi w v) (hh : hi ≤ hi') : Vary lo hi' w v := by
  rcases h with h | ⟨g, n, c, h1, h2, h3, h4, h5⟩
  · exact .inl h
  · exact .inr ⟨g, n, c, h1, h2, by omega, h4, h5⟩
theorem Vary.set {lo hi : Nat} {w : World} {v : Value} (h : Vary lo hi w v) (g k z : Nat) (hz : z < LB) : Vary lo hi (w.setCell ⟨g, k, none⟩ (.int .u32 (z : Int))) v := by
  rcases h with h | ⟨g', n, c, h1, h2, h3, h4, cur, h5, h6⟩
  · exact .inl h
  · refine .inr ⟨g', n, c, h1, h2, h3, h4, ?_⟩
    by_cases e : g = g'
    · subst e
      refine ⟨cur.setIfInBounds k (.int .u32 (z : Int)), by simp [World.setCell, Array.getElem?_modify, h5], fun j hj => ?_⟩
      obtain ⟨z', hc, hz'⟩ := h6 j hj
      by_cases ejk : k = j
      · subst ejk
        have : k < cur.size := (Array.getElem?_eq_some_iff.1 hc).1
        exact ⟨z, by simp [this], hz⟩
      · exact ⟨z', by rw [Array.getElem?_setIfInBounds_ne ejk]; exact hc, hz'⟩
    · exact ⟨cur, (Below.heap_setCell w ⟨g, k, none⟩ _ g' (fun h => e h.symm)).trans h5, h6⟩

theorem Vary.form {lo hi : Nat} {w : World} {v : Value} (h : Vary lo hi w v) : ∃ A n c, v = .slice A n c := by
  rcases h with h | ⟨g, n, c, h, _⟩
  · exact ⟨_, _, _, h⟩
  · exact ⟨_, _, _, h⟩

theorem sub_any {S T : Nat → Prop} (w : World) (va vb : Value) (xs ys : List Nat) (ha : Sl Lm S w va xs) (hb : Sl Lm T w vb ys) (hxl : xs.length ≤ 1099511627000) :
    Calls Try.prog 18 #[va, vb] w fun e w' => ∃ v k ds, e = .returned (.tuple #[v, .int .i64 k]) ∧ Own Lm 56 (fun k => w.heap.size ≤ k) w' v ds ∧ Fr (fun k => k < w.heap.size) w w' := by
  refine (sub_calls w va vb xs ys ha hb hxl).mono ?_
  rintro e w' ⟨hf, ⟨_, rfl⟩ | ⟨_, v, rfl, h⟩⟩
  · exact ⟨_, _, [], rfl, Own.nil _ _ _ _, hf⟩
  · exact ⟨_, _, _, rfl, h, hf⟩

set_option maxHeartbeats 2000000 in
theorem own_walk {S : Nat → Prop} (w : World) (va vb : Value) (a b L : Nat) (ha : Num S w va a L) (hb : Num S w vb b L) (hL : L ≤ 1048576) :
    Calls Try.prog 11 #[va, vb] w fun e w' => e = .returned (.bool true) ∧ Fr (fun k => k < w.heap.size) w w' := by
  obtain ⟨xs, ha, _, hxl⟩ := ha
  obtain ⟨ys, hb, _, hyl⟩ := hb
  have hx1 : xs.length ≤ 1048576 := by omega
  have hy1 : ys.length ≤ 1048576 := by omega
  clear hxl hyl
  go_enter Try.func11, Try.ntmps11
  go_wp2_with fail
  refine (own_calls _ _ _ ha (by omega)).mono ?_
  rintro e w1 ⟨vx, rfl, hx, hf⟩
  have F := hf
  replace ha := ha.keep' Lm_pos hf; replace hb := hb.keep' Lm_pos hf
  clear hf
  go_wp2_with fail
  refine (own_calls _ _ _ hb (by omega)).mono ?_
  rintro e w2 ⟨vy, rfl, hy, hf⟩
  replace F := fr_then F hf
  replace ha := ha.keep' Lm_pos hf; replace hb := hb.keep' Lm_pos hf
  have sx := (hx.sl.keep' Lm_pos hf).up Lm_pos (Nat.le_refl _) (Fr.refl _ _)
  have sy := hy.sl.up Lm_pos (Nat.le_refl _) (Fr.refl _ _)
  have sa := ha.up Lm_pos (Nat.le_refl _) (Fr.refl _ _)
  have sb := hb.up Lm_pos (Nat.le_refl _) (Fr.refl _ _)
  have hlo := F.size
  clear hf hx hy ha hb
  go_wp2_with fail
  refine (sub_any _ _ _ _ _ sx sy (by omega)).mono ?_
  rintro e w3 ⟨v3, k3, d3, rfl, h3, hf⟩
  have G := hf
  replace h3 := Vary.of h3 (lo := w2.heap.size) (fun k hk => hk) (Nat.le_refl _)
  have g3 := G.size
  clear hf
  go_wp2_with fail
  refine (trim_calls _ _ _ (sx.fr G) (by omega)).mono ?_
  rintro e w4 ⟨v4, rfl, h4, hf⟩
  replace h4 := Vary.of h4 (lo := w2.heap.size) (fun k hk => by omega) (Nat.le_refl _)
  have g4 := hf.size
  replace h3 := (h3.fr hf (fun k _ h => h)).up g4
  replace G := fr_then G hf
  clear hf
  go_wp2_with fail
  refine (add_calls _ _ _ _ _ (sx.fr G) (sy.fr G) (by omega) (by omega)).mono ?_
  rintro e w5 ⟨v5, rfl, h5, hf⟩
  replace h5 := Vary.of h5 (lo := w2.heap.size) (fun k hk => by omega) (Nat.le_refl _)
  have g5 := hf.size
  replace h3 := (h3.fr hf (fun k _ h => h)).up g5
  replace h4 := (h4.fr hf (fun k _ h => h)).up g5
  replace G := fr_then G hf
  clear hf
  go_wp2_with fail
  refine (mul_calls _ _ _ _ _ (sx.fr G) (sy.fr G) (by omega)).mono ?_
  rintro e w6 ⟨v6, rfl, h6, hf⟩
  replace h6 := Vary.of h6 (lo := w2.heap.size) (fun k hk => by omega) (Nat.le_refl _)
  have g6 := hf.size
  replace h3 := (h3.fr hf (fun k _ h => h)).up g6
  replace h4 := (h4.fr hf (fun k _ h => h)).up g6
  replace h5 := (h5.fr hf (fun k _ h => h)).up g6
  replace G := fr_then G hf
  clear hf
  go_wp2_with fail
  refine (shl_calls _ _ _ 0 (sx.fr G) (by omega) (by omega)).mono ?_
  rintro e w7 ⟨v7, rfl, h7, hf⟩
  replace h7 := Vary.of h7 (lo := w2.heap.size) (fun k hk => by omega) (Nat.le_refl _)
  have g7 := hf.size
  replace h3 := (h3.fr hf (fun k _ h => h)).up g7
  replace h4 := (h4.fr hf (fun k _ h => h)).up g7
  replace h5 := (h5.fr hf (fun k _ h => h)).up g7
  replace h6 := (h6.fr hf (fun k _ h => h)).up g7
  replace G := fr_then G hf
  clear hf
  go_wp2_with fail
  refine (shr_calls _ _ _ 0 (sx.fr G) (by omega) (by omega)).mono ?_
  rintro e w8 ⟨v8, rfl, h8, hf⟩
  replace h8 := Vary.of h8 (lo := w2.heap.size) (fun k hk => by omega) (Nat.le_refl _)
  have g8 := hf.size
  replace h3 := (h3.fr hf (fun k _ h => h)).up g8
  replace h4 := (h4.fr hf (fun k _ h => h)).up g8
  replace h5 := (h5.fr hf (fun k _ h => h)).up g8
  replace h6 := (h6.fr hf (fun k _ h => h)).up g8
  replace h7 := (h7.fr hf (fun k _ h => h)).up g8
  replace G := fr_then G hf
  clear hf
  obtain ⟨A3, n3, c3, rfl⟩ := h3.form
  obtain ⟨A4, n4, c4, rfl⟩ := h4.form
  obtain ⟨A5, n5, c5, rfl⟩ := h5.form
  obtain ⟨A6, n6, c6, rfl⟩ := h6.form
  obtain ⟨A7, n7, c7, rfl⟩ := h7.form
  obtain ⟨A8, n8, c8, rfl⟩ := h8.form
  have GA := G.alloc (.cells #[.slice A4 n4 c4, .slice A5 n5 c5, .slice A6 n6 c6, .slice A7 n7 c7, .slice A8 n8 c8, .slice A3 n3 c3] 23)
  have hlo8 : w2.heap.size ≤ w8.heap.size := by omega
  have HV : ∃ vs : List Value, vs.length = 6 ∧ (∀ v ∈ vs, Vary w2.heap.size w8.heap.size (w8.alloc (.cells #[.slice A4 n4 c4, .slice A5 n5 c5, .slice A6 n6 c6, .slice A7 n7 c7, .slice A8 n8 c8, .slice A3 n3 c3] 23)) v) ∧
      (w8.alloc (.cells #[.slice A4 n4 c4, .slice A5 n5 c5, .slice A6 n6 c6, .slice A7 n7 c7, .slice A8 n8 c8, .slice A3 n3 c3] 23)).heap[w8.heap.size]? = some (.cells vs.toArray 23 (0, 0)) := by
    refine ⟨[.slice A4 n4 c4, .slice A5 n5 c5, .slice A6 n6 c6, .slice A7 n7 c7, .slice A8 n8 c8, .slice A3 n3 c3], rfl, ?_, heap_alloc_new _ _⟩
    have hfa : Fr (fun _ => True) w8 (w8.alloc (.cells #[.slice A4 n4 c4, .slice A5 n5 c5, .slice A6 n6 c6, .slice A7 n7 c7, .slice A8 n8 c8, .slice A3 n3 c3] 23)) := (Fr.refl _ _).alloc _
    intro v hv
    simp only [List.mem_cons, List.not_mem_nil, or_false] at hv
    rcases hv with rfl | rfl | rfl | rfl | rfl | rfl <;> (refine Vary.fr ?_ hfa (fun _ _ _ => trivial); assumption)
  obtain ⟨vs, hvl, hvs, hlb⟩ := HV
  have HV := Lib.hid hvs
  have HL := Lib.hid hlb
  have HVL := Lib.hid hvl
  clear hvs hlb hvl h3 h4 h5 h6 h7 h8 G g3 g4 g5 g6 g7 g8
  go_wp2_with fail
  go_loopw [10, 11] (fun i _ wr => ∃ (n : Nat), i = .int .i64 n ∧ n ≤ 6 ∧ (∀ v ∈ vs, Vary w2.heap.size w8.heap.size wr v) ∧ wr.heap[w8.heap.size]? = some (.cells vs.toArray 23 (0, 0)) ∧ Fr (fun k => k < w2.heap.size) w2 wr) (fun i _ _ => 6 - (intOf i).toNat)
  case atStart => exact ⟨0, rfl, by omega, HV.out, HL.out, GA⟩
  case round =>
    clear HV HL GA
    obtain ⟨n, rfl, hn, hvs, hlb, G⟩ := hrel
    by_cases hlt : n < 6
    · have hnv : n < vs.length := by rw [HVL.out]; exact hlt
      have hc0 : wr.cell? ⟨w8.heap.size, n, none⟩ = some vs[n] := by
        rw [cell_of_row wr w8.heap.size n _ _ (0, 0) hlb]; simp [hnv]
      clear hc0
      obtain ⟨Av, nv, cv, hv⟩ := (hvs _ (List.getElem_mem hnv)).form
      have hmem := List.getElem_mem hnv
      have hc0 : ∀ W : World, W.heap[w8.heap.size]? = some (.cells vs.toArray 23 (0, 0)) → W.cell? ⟨w8.heap.size, n, none⟩ = some (.slice Av nv cv) := fun W h => by
        rw [cell_of_row W w8.heap.size n _ _ (0, 0) h]; simp [hnv, hv]
      rw [hv] at hmem
      have HC := Lib.hid hc0
      have HV1 := Lib.hid hvs
      have HL1 := Lib.hid hlb
      clear hc0 hv hvs hlb
      go_wp2_with fail
      go_loopw [11] (fun k W => ∃ (m : Nat), k = .int .i64 m ∧ Hid (∀ v ∈ vs, Vary w2.heap.size w8.heap.size W v) ∧ Hid (W.heap[w8.heap.size]? = some (.cells vs.toArray 23 (0, 0))) ∧ Fr (fun k => k < w2.heap.size) w2 W) (fun k _ => nv - (intOf k).toNat)
      case atStart => exact ⟨0, rfl, HV1, HL1, G⟩
      case round =>
        clear HV1 HL1 G
        obtain ⟨m, rfl, HV1, HL1, G⟩ := hrel
        have hl1 := HC.out _ HL1.out
        by_cases hm : m < nv
        · rcases HV1.out _ hmem with h | ⟨g, n', c', h1, h2, h3, h4, cur, h5, h6⟩
          · cases h; omega
          cases h1
          obtain ⟨z, hz, hzl⟩ := h6 m hm
          have hz1 : wr.drew.cell? ⟨g, m, none⟩ = some (.int .u32 (z : Int)) := (cell_of_row wr g m cur 56 (0, 0) h5).trans hz
          have hfz : wr.drew.frozen? ⟨g, m, none⟩ = false := frozen_of_row wr g m cur 56 h5
          have hl2 : wr.drew.cell? ⟨w8.heap.size, n, none⟩ = some (.slice (some ⟨g, 0, none⟩) nv cv) := hl1
          obtain ⟨y, hy⟩ : ∃ y, y = (z + 1) % 4294967296 := ⟨_, rfl⟩
          have hwrap : IntKind.u32.wrap ((z : Int) + 1) = (y : Int) := by rw [hy]; simp [IntKind.wrap, IntKind.signed, IntKind.bits]
          have hyl : y < LB := by rw [hy]; unfold LB; omega
          have HN := Lib.hid (show ∀ v ∈ vs, Vary w2.heap.size w8.heap.size (wr.setCell ⟨g, m, none⟩ (.int .u32 (y : Int))).drew v from fun v hv => ((HV1.out v hv).set g m y hyl).fr ((Fr.refl (fun _ => True) _).drew) (fun _ _ _ => trivial))
          have HLN := Lib.hid (show (wr.setCell ⟨g, m, none⟩ (.int .u32 (y : Int))).drew.heap[w8.heap.size]? = some (.cells vs.toArray 23 (0, 0)) from (Below.heap_setCell wr ⟨g, m, none⟩ _ w8.heap.size (by simp; omega)).trans HL1.out)
          have GN : Fr (fun k => k < w2.heap.size) w2 (wr.setCell ⟨g, m, none⟩ (.int .u32 (y : Int))).drew := (G.setCell (fun _ => by simp; omega) _).drew
          clear hy hz h5 h6 HV1 HL1 G HC
          go_wp2_with fail
          go_region
          all_goals
            go_wp2_with fail
            go_roundw
            case rel => exact ⟨m + 1, by go_num, HN, HLN, GN⟩
            case measure => first | (simp [intOf]; done) | (simp [intOf]; omega)
        · go_wp2_with fail
          go_roundw
          case rel => exact ⟨n + 1, by go_num, by omega, HV1.out, HL1.out, G⟩
          case measure => first | (simp [intOf]; done) | (simp [intOf]; omega)
    · obtain rfl : n = 6 := by omega
      go_wp2_with fail
      refine (same_yes _ _ _ _ _ (sx.fr G) (sa.fr G) rfl).mono ?_
      rintro e w' ⟨rfl, rfl⟩
      go_wp2_with fail
      refine (same_yes _ _ _ _ _ (sy.fr G) (sb.fr G) rfl).mono ?_
      rintro e w' ⟨rfl, rfl⟩
      go_wp2_with fail
      refine (known_calls _).mono ?_
      rintro e w9 ⟨rfl, hf⟩
      go_wp2_with fail
      go_ret
      exact ⟨rfl, fr_then (fr_then F G) hf⟩
end Go.Proofs.Ytkngjhajjimjbaa
