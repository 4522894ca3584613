
import Derived.Test.YtlppcfeimpcbjaaGreatFpF
import Derived.Test.YtlppcfeimpcbjaaGreatFpC
set_option linter.unusedSimpArgs false
set_option linter.unusedVariables false

/- The document's Back, Fits and Spread: printed by gen_fpk.py. -/
namespace Go.Proofs.YtlppcfeimpcbjaaGreat
open Go.RowKit Go.Shelf
attribute [local go_sem] Oper.semAt_some

theorem Own.setR {e : TypeId} {S : Nat → Prop} {w : World} {g n c K : Nat} {xs : List Rat} (h : Own (Rk K) e S w (.slice (some ⟨g, 0, none⟩) n c) xs) {i : Nat} (hi : i < xs.length) (y : Rat) {vn vd : Value} (h1 : RR (fun k => S k ∧ k ≠ g) w vn vd y K) :
    Own (Rk K) e S (((w.setCell ⟨g, i * 3, none⟩ (.bool (sg y))).setCell ⟨g, i * 3 + 1, none⟩ vn).setCell ⟨g, i * 3 + 2, none⟩ vd) (.slice (some ⟨g, 0, none⟩) n c) (xs.set i y) := by
  obtain ⟨cells, o, hS, hE⟩ := h
  have hF := ((fr_set1 w g (i * 3) (.bool (sg y))).trans (fr_set1 _ g (i * 3 + 1) vn)).trans (fr_set1 _ g (i * 3 + 2) vd)
  have hn : xs.length = n := by
    rcases o.2 with ⟨h', _⟩ | ⟨g', cap', cur, h', _⟩
    · cases h'
    · cases h'; rfl
  subst hn
  have o1 := (((o.stored (i * 3) (.bool (sg y))).1.stored (i * 3 + 1) vn).1.stored (i * 3 + 2) vd).1
  have hcl : cells.length = xs.length * 3 := o.1
  refine ⟨_, by rw [List.length_set]; exact o1, hS, fun k x hx => ?_⟩
  by_cases hk : k = i
  · subst hk
    rw [List.getElem?_set_self hi] at hx
    cases hx
    refine ⟨[.bool (sg y), vn, vd], ⟨vn, vd, rfl, (h1.fr (hF.mono fun k _ hk => hk.2)).mono fun k hk => ⟨hk.1, fun e => hk.2 (by cases e; rfl)⟩⟩, fun j u hj => ?_⟩
    have hj3 : j < 3 := by have := (List.getElem?_eq_some_iff.1 hj).1; simpa using this
    show _ = some u
    rw [show (Rk K).size = 3 from rfl]
    obtain rfl | rfl | rfl : j = 0 ∨ j = 1 ∨ j = 2 := by omega
    · cases hj
      rw [List.getElem?_set_ne (by omega), List.getElem?_set_ne (by omega), Nat.add_zero, List.getElem?_set_self (by omega)]
    · cases hj
      rw [List.getElem?_set_ne (by omega), List.getElem?_set_self (by rw [List.length_set]; omega)]
    · cases hj
      rw [List.getElem?_set_self (by rw [List.length_set, List.length_set]; omega)]
  · rw [List.getElem?_set_ne (fun e => hk e.symm)] at hx
    obtain ⟨cs, hr, hu⟩ := hE k x hx
    refine ⟨cs, (Rk K).fr hr (hF.mono fun k _ hk => fun e => hk.2 (by rw [e]; rfl)), fun j u hj => ?_⟩
    have hj3 : j < 3 := by have := (List.getElem?_eq_some_iff.1 hj).1; rwa [(Rk K).len hr] at this
    have := hu j u hj
    rw [show (Rk K).size = 3 from rfl] at this ⊢
    rw [List.getElem?_set_ne (by omega), List.getElem?_set_ne (by omega), List.getElem?_set_ne (by omega)]
    exact this
theorem own_rwide {e : TypeId} {S : Nat → Prop} {w : World} {v : Value} {qs : List Rat} {K M : Nat} (h : Own (Rk K) e S w v qs) (hl : K ≤ M) : Own (Rk M) e S w v qs := by
  obtain ⟨cells, h1, h2, h3⟩ := h
  exact ⟨cells, h1, h2, fun i x hx => let ⟨cs, ⟨vn, vd, hc, hr⟩, hu⟩ := h3 i x hx; ⟨cs, ⟨vn, vd, hc, hr.wide hl⟩, hu⟩⟩

/-- an element from the end -/
def bkI (xs : List Int) (k : Nat) : Int := if xs.length < k then 0 else xs.getD (xs.length - k) 0
set_option maxHeartbeats 4000000 in
theorem rback_i {S : Nat → Prop} (w : World) (v : Value) (xs : List Int) (k : Nat) (x : Int) (hk : 1 ≤ k) (hx : Hid (bkI xs k = x)) (h : Sl Im S w v xs) :
    Calls Tryz.prog 111 #[v, .int .i64 (k : Int)] w fun e w' => e = .returned (.int .i64 x) ∧ w' = w := by
  obtain ⟨A, c, rfl, _, _, hlx⟩ := h.slice
  by_cases hl : xs.length < k
  · have hX : x = 0 := hx.out.symm.trans (if_pos hl)
    clear hx
    subst hX
    go_enter Tryz.func111, Tryz.ntmps111
    go_wp2_with fail
    go_ret
    exact ⟨rfl, by first | rfl | trivial⟩
  · have hX : xs.getD (xs.length - k) 0 = x := (if_neg hl).symm.trans hx.out
    obtain ⟨ad, rfl, hc, _⟩ := Kd.int_cell h (i := xs.length - k) (by omega)
    rw [← getI_at (by omega : xs.length - k < xs.length), hX] at hc
    obtain ⟨j, hj⟩ : ∃ j, xs.length - k = j := ⟨_, rfl⟩
    rw [hj] at hc
    have hw : IntKind.i64.wrap ((xs.length : Int) - (k : Int)) = (j : Int) := by rw [IntKind.wrap_i64]; omega
    have hjl : j < xs.length := by omega
    clear hx hX hj h
    go_enter Tryz.func111, Tryz.ntmps111
    go_wp2_with fail
    go_ret
    exact ⟨rfl, by first | rfl | trivial⟩

set_option maxHeartbeats 8000000 in
theorem rfits_t {S T : Nat → Prop} (w : World) (va vb : Value) (xs ys : List Int) (r : Int) (hr : Hid (fitsE xs ys = r)) (ha : Sl Im S w va xs) (hb : Sl Im T w vb ys) :
    Calls Tryz.prog 73 #[va, vb] w fun e w' => e = .returned (.int .i64 r) ∧ w' = w := by
  obtain ⟨A, c, rfl, _, _, _⟩ := ha.slice
  obtain ⟨B, d, rfl, _, _, _⟩ := hb.slice
  have P1 := Lib.hid (smay_calls w (.slice A xs.length c) xs ha)
  have P2 := Lib.hid (smay_calls w (.slice B ys.length d) ys hb)
  have HA := Lib.hid ha
  have HB := Lib.hid hb
  obtain ⟨r1, hr1⟩ : ∃ r, mayS xs = r := ⟨_, rfl⟩
  obtain ⟨r2, hr2⟩ : ∃ r, mayS ys = r := ⟨_, rfl⟩
  rw [hr1] at P1
  rw [hr2] at P2
  have HR1 := Lib.hid hr1
  have HR2 := Lib.hid hr2
  clear hr1 hr2 ha hb
  go_enter Tryz.func73, Tryz.ntmps73
  go_wp2_with fail
  with_reducible refine P1.out.mono ?_
  rintro e u ⟨rfl, hu⟩
  replace hu := hu.symm
  subst hu
  by_cases h0 : r1 = 0
  case neg =>
    have HN : r = r1 := hr.out.symm.trans ((if_pos (by rw [HR1.out]; exact h0)).trans HR1.out)
    have hb0 : (r1 == 0) = false := beq_eq_false_iff_ne.2 h0
    go_wp2_with fail
    go_ret
    exact ⟨by first | rfl | (rw [HN]; rfl), by first | rfl | trivial⟩
  subst h0
  go_wp2_with fail
  with_reducible refine P2.out.mono ?_
  rintro e u ⟨rfl, hu⟩
  replace hu := hu.symm
  subst hu
  by_cases h0 : r2 = 0
  case neg =>
    have HN : r = r2 := hr.out.symm.trans ((if_neg (by rw [HR1.out]; simp)).trans ((if_pos (by rw [HR2.out]; exact h0)).trans HR2.out))
    have hb0 : (r2 == 0) = false := beq_eq_false_iff_ne.2 h0
    go_wp2_with fail
    go_ret
    exact ⟨by first | rfl | (rw [HN]; rfl), by first | rfl | trivial⟩
  subst h0
  have hN : r = if xs.length ≤ ys.length ∧ ∀ i, i < xs.length → alongP xs ys i then 0 else 13 := hr.out.symm.trans ((if_neg (by rw [HR1.out]; simp)).trans (if_neg (by rw [HR2.out]; simp)))
  have HN := Lib.hid hN
  clear hN P1 P2
  have hx4 := (mayS_ok HR1.out).1
  have hy4 := (mayS_ok HR2.out).1
  go_wp2_with fail
  go_loop [7] (fun i => ∃ (k : Nat), 1 ≤ k ∧ k ≤ xs.length + 1 ∧ i = .int .i64 k ∧ k ≤ ys.length + 1 ∧ Hid (xs.length ≤ ys.length → ∀ i, i < xs.length → xs.length - i < k → alongP xs ys i)) (fun i => xs.length + 1 - (intOf i).toNat)
  case atStart => exact ⟨1, Nat.le_refl _, by omega, rfl, by omega, Lib.hid fun _ i hi h => by omega⟩
  case round =>
    obtain ⟨k, hk1, hk, rfl, hky, HP⟩ := hrel
    by_cases hlt : k ≤ xs.length
    case neg =>
      obtain rfl : k = xs.length + 1 := by omega
      have HNN : r = 0 := HN.out.trans (if_pos ⟨by omega, fun i hi => HP.out (by omega) i hi (by omega)⟩)
      go_wp2_with fail
      go_ret
      exact ⟨by first | rfl | (rw [HNN]; rfl), by first | rfl | trivial⟩
    obtain ⟨z, hz⟩ : ∃ z, bkI ys k = z := ⟨_, rfl⟩
    obtain ⟨x, hx⟩ : ∃ x, bkI xs k = x := ⟨_, rfl⟩
    have PZ := Lib.hid (rback_i w (.slice B ys.length d) ys k z hk1 (Lib.hid hz) HB.out)
    have PX := Lib.hid (rback_i w (.slice A xs.length c) xs k x hk1 (Lib.hid hx) HA.out)
    by_cases hyl : ys.length < k
    · have hz0 : z = 0 := hz.symm.trans (if_pos hyl)
      have HNN : r = 13 := HN.out.trans (if_neg fun h => by omega)
      clear hz hx
      subst hz0
      go_wp2_with fail
      with_reducible refine PZ.out.mono ?_
      rintro e u ⟨rfl, hu⟩
      replace hu := hu.symm
      subst hu
      go_wp2_with fail
      go_ret
      exact ⟨by first | rfl | (rw [HNN]; rfl), by first | rfl | trivial⟩
    have hzg : ys.getD (ys.length - k) 0 = z := (if_neg hyl).symm.trans hz
    have hxg : xs.getD (xs.length - k) 0 = x := (if_neg (by omega)).symm.trans hx
    have hz1 : 1 ≤ z := by
      rw [← hzg, getI_at (by omega : ys.length - k < ys.length)]
      exact (mayS_ok HR2.out).2.1 _ (List.getElem_mem _)
    have HAL : Hid (xs.length ≤ ys.length → (alongP xs ys (xs.length - k) ↔ x = 1 ∨ x = z)) := Lib.hid fun hxy => by
      unfold alongP
      rw [hxg, show ys.length - xs.length + (xs.length - k) = ys.length - k by omega, hzg]
    clear hz hx hzg hxg
    have hz0 : (z == 0) = false := beq_eq_false_iff_ne.2 (by omega)
    by_cases h1 : x = 1
    · subst h1
      go_wp2_with fail
      with_reducible refine PZ.out.mono ?_
      rintro e u ⟨rfl, hu⟩
      replace hu := hu.symm
      subst hu
      go_wp2_with fail
      with_reducible refine PX.out.mono ?_
      rintro e u ⟨rfl, hu⟩
      replace hu := hu.symm
      subst hu
      go_wp2_with fail
      go_round
      case rel => exact ⟨k + 1, by omega, by omega, by go_num, by omega, Lib.hid fun hxy i hi hk' => by
        by_cases e : xs.length - i = k
        · have hi' : i = xs.length - k := by omega
          rw [hi']
          exact (HAL.out hxy).2 (by first | exact trivial | exact .inl trivial | exact .inl rfl)
        · exact HP.out hxy i hi (by omega)⟩
      case measure => first | (simp [intOf]; done) | (simp [intOf]; omega)
    have hb1 : (x == 1) = false := beq_eq_false_iff_ne.2 h1
    have hc1 : (x != 1) = true := bne_iff_ne.2 h1
    by_cases h2 : x = z
    · subst h2
      go_wp2_with fail
      with_reducible refine PZ.out.mono ?_
      rintro e u ⟨rfl, hu⟩
      replace hu := hu.symm
      subst hu
      go_wp2_with fail
      with_reducible refine PX.out.mono ?_
      rintro e u ⟨rfl, hu⟩
      replace hu := hu.symm
      subst hu
      go_wp2_with fail
      with_reducible refine PX.out.mono ?_
      rintro e u ⟨rfl, hu⟩
      replace hu := hu.symm
      subst hu
      go_wp2_with fail
      with_reducible refine PZ.out.mono ?_
      rintro e u ⟨rfl, hu⟩
      replace hu := hu.symm
      subst hu
      go_wp2_with fail
      go_round
      case rel => exact ⟨k + 1, by omega, by omega, by go_num, by omega, Lib.hid fun hxy i hi hk' => by
        by_cases e : xs.length - i = k
        · have hi' : i = xs.length - k := by omega
          rw [hi']
          exact (HAL.out hxy).2 (by first | exact trivial | exact .inr trivial | exact .inr rfl)
        · exact HP.out hxy i hi (by omega)⟩
      case measure => first | (simp [intOf]; done) | (simp [intOf]; omega)
    · have hb2 : (x == z) = false := beq_eq_false_iff_ne.2 h2
      have hc2 : (x != z) = true := bne_iff_ne.2 h2
      have HNN : r = 13 := HN.out.trans (if_neg fun h => by
        rcases (HAL.out h.1).1 (h.2 _ (by omega)) with e | e
        · exact h1 e
        · exact h2 e)
      go_wp2_with fail
      with_reducible refine PZ.out.mono ?_
      rintro e u ⟨rfl, hu⟩
      replace hu := hu.symm
      subst hu
      go_wp2_with fail
      with_reducible refine PX.out.mono ?_
      rintro e u ⟨rfl, hu⟩
      replace hu := hu.symm
      subst hu
      go_wp2_with fail
      with_reducible refine PX.out.mono ?_
      rintro e u ⟨rfl, hu⟩
      replace hu := hu.symm
      subst hu
      go_wp2_with fail
      with_reducible refine PZ.out.mono ?_
      rintro e u ⟨rfl, hu⟩
      replace hu := hu.symm
      subst hu
      go_wp2_with fail
      go_ret
      exact ⟨by first | rfl | (rw [HNN]; rfl), by first | rfl | trivial⟩

set_option maxRecDepth 20000 in
set_option maxHeartbeats 8000000 in
theorem rspread_t {S T U : Nat → Prop} (w : World) (vs ve vi : Value) (sh idx : List Int) (qs : List Rat) (K g p : Nat) (hg : Hid (idx.length = g + sh.length)) (hp : Hid (sprN sh idx g = p)) (hs : Sl Im S w vs sh) (hq : Sl (Rk K) T w ve qs) (hi : Sl Im U w vi idx) (hm : Hid (mayS sh = 0 ∧ (qs.length : Int) = pr sh)) (hin : Hid (∀ i, i < sh.length → 0 ≤ idx.getD (g + i) 0 ∧ (sh.getD i 0 = 1 ∨ idx.getD (g + i) 0 < sh.getD i 0))) (hil : idx.length ≤ 1099511627000) :
    Calls Tryz.prog 74 #[.agg #[vs, ve], vi] w (Ret w (RQ (qs.getD p 0) K)) := by
  obtain ⟨q9, hq9⟩ : ∃ q, qs.getD p 0 = q := ⟨_, rfl⟩
  rw [hq9]
  have HQ9 := Lib.hid hq9
  clear hq9
  refine Calls.mono (show Calls Tryz.prog 74 #[.agg #[vs, ve], vi] w (fun e w' => ∃ P i j Q k l, e = .returned (.agg #[.bool (sg q9), .slice P i j, .slice Q k l]) ∧ RR (fun _ => True) w' (.slice P i j) (.slice Q k l) q9 K ∧ Fr (fun k => k < w.heap.size) w w') from ?_) fun e u h => by
    obtain ⟨P, i, j, Q, k, l, rfl, h1, hf⟩ := h
    exact ⟨_, rfl, hf, fun u' hu' => ⟨_, _, _, _, _, _, rfl, h1.keep hu'⟩⟩
  obtain ⟨A, c, rfl, _, _, _⟩ := hs.slice
  obtain ⟨A', c', rfl, _, _, hly⟩ := hq.slice
  obtain ⟨B, d, rfl, _, _, _⟩ := hi.slice
  have F := ((Fr.refl (fun k => k < w.heap.size) w).alloc (.cells #[.slice A sh.length c, .slice A' qs.length c'] 36)).alloc (.cells #[.bool false, .slice none 0 0, .slice none 0 0] 58)
  have x2 := (Box2.new w 36 (.slice A sh.length c) (.slice A' qs.length c')).alloc (.cells #[.bool false, .slice none 0 0, .slice none 0 0] 58)
  have x4 := Box3.new (w.alloc (.cells #[.slice A sh.length c, .slice A' qs.length c'] 36)) 58 (.bool false) (.slice none 0 0) (.slice none 0 0)
  simp only [World.size_alloc] at x4
  have HS := Lib.hid ((hs.low Im_pos).fr F)
  have HQ := Lib.hid ((hq.low (Rk_pos K)).fr F)
  have HI := Lib.hid ((hi.low Im_pos).fr F)
  obtain ⟨hl4, hd1, hp4⟩ := mayS_ok hm.out.1
  have hcnt := hm.out.2
  obtain ⟨l, hl⟩ : ∃ l, cutI (idx.drop g) sh sh.length = l := ⟨_, rfl⟩
  have hdl : (idx.drop g).length = sh.length := by rw [List.length_drop, hg.out]; omega
  have hlg : ∀ i, i < sh.length → (sh.getD i 0 = 1 → l.getD i 0 = 0) ∧ (sh.getD i 0 ≠ 1 → l.getD i 0 = idx.getD (g + i) 0) := fun i hi => by
    have hx := hin.out i hi
    have hdi := hd1 _ (List.getElem_mem hi)
    rw [← getI_at hi] at hdi
    have hgd : (idx.drop g).getD i 0 = idx.getD (g + i) 0 := by rw [List.getD_eq_getElem?_getD, List.getElem?_drop, ← List.getD_eq_getElem?_getD]
    rw [← hl, cut_at (by rw [hdl]; exact hi), if_pos hi, hgd]
    constructor
    · intro h; omega
    · intro h; rcases hx.2 with h1 | h1
      · exact absurd h1 h
      · omega
  have hir : ∀ i, i < sh.length → 0 ≤ l.getD i 0 ∧ l.getD i 0 < sh.getD i 0 := fun i hi => by
    have hx := hin.out i hi
    have hdi := hd1 _ (List.getElem_mem hi)
    rw [← getI_at hi] at hdi
    have hh := hlg i hi
    by_cases h : sh.getD i 0 = 1
    · rw [hh.1 h]; omega
    · rw [hh.2 h]; rcases hx.2 with h1 | h1
      · exact absurd h1 h
      · omega
  have hof : ∀ j, j ≤ sh.length → 0 ≤ ofs sh l j ∧ ofs sh l j < 1024 := fun j hj => by
    have h1 := ofs_lt hd1 hj (fun i hi => hir i (by omega))
    have h2 := pr_take_le hd1 j
    omega
  have hpp : ofs sh l sh.length = (p : Int) := by
    have h1 := hof sh.length (Nat.le_refl _)
    have h2 := hp.out
    unfold sprN at h2
    rw [hl] at h2
    omega
  have hpl : p < qs.length := by
    have h1 := ofs_lt hd1 (Nat.le_refl _) (fun i hi => hir i hi)
    rw [List.take_length, hpp] at h1
    omega
  have HLG := Lib.hid hlg
  have HIR := Lib.hid hir
  have HOF := Lib.hid hof
  have HPP := Lib.hid hpp
  have HD1 := Lib.hid hd1
  have hw : IntKind.i64.wrap ((idx.length : Int) - (sh.length : Int)) = (g : Int) := by rw [IntKind.wrap_i64]; have := hg.out; omega
  have HW := Lib.hid hw
  have hgl : g + sh.length = idx.length := hg.out.symm
  clear hs hq hi hd1 hcnt hl hdl hlg hir hof hpp hw hp4
  have a0 := x2.c0
  have a1 := x2.c1
  go_enter Tryz.func74, Tryz.ntmps74
  go_wp2_with fail
  generalize (w.alloc (.cells #[.slice A sh.length c, .slice A' qs.length c'] 36)).alloc (.cells #[.bool false, .slice none 0 0, .slice none 0 0] 58) = W at F x2 x4 HS HQ HI a0 a1 ⊢
  go_loop [5, 6] (fun n i => ∃ (j : Nat), j ≤ sh.length ∧ i = .int .i64 j ∧ n = .int .i64 (ofs sh l j)) (fun _ i => sh.length - (intOf i).toNat)
  case atStart => exact ⟨0, Nat.zero_le _, rfl, rfl⟩
  case round =>
    obtain ⟨j, hj, rfl, rfl⟩ := hrel
    have ho := HOF.out j hj
    by_cases hlt : j < sh.length
    case neg =>
      obtain rfl : j = sh.length := by omega
      rw [HPP.out]
      obtain ⟨ad, P, n1, d1, Q, m1, o1, rfl, hS1, g0, g1, g2, t1⟩ := Rk_get HQ.out hpl
      have hge : qs[p] = q9 := by rw [← HQ9.out, List.getD_eq_getElem?_getD, List.getElem?_eq_getElem hpl]; rfl
      rw [hge] at g0 t1
      obtain ⟨sx, hsx⟩ : ∃ s, sg q9 = s := ⟨_, rfl⟩
      have HSX := Lib.hid hsx
      rw [hsx] at g0
      clear hsx hge ho
      have e0 := x4.c0
      have e1 := x4.c1
      have e2 := x4.c2
      have f0 := x4.free 0
      have f1 := x4.free 1
      have f2 := x4.free 2
      have F9 := fr_set3 W (w.heap.size + 1) (.bool sx) (.slice P n1 d1) (.slice Q m1 o1)
      have B9 := x4.set3 (.bool sx) (.slice P n1 d1) (.slice Q m1 o1)
      go_wp2_with fail
      refine bodyPost_ret (results_cell3 rfl rfl B9 Tryz.underlying58 ref3) rfl ?_
      exact ⟨_, _, _, _, _, _, by rw [HSX.out], ((t1.fr (F9.mono fun k _ hk => by omega)).mono fun _ _ => trivial), F.comp F9 fun k _ hk => ⟨hk, by omega⟩⟩
    obtain ⟨ad1, rfl, hx, hx1, hx2⟩ := Kd.int_cell HS.out (i := j) hlt
    obtain ⟨ad2, rfl, hy, hy1, hy2⟩ := Kd.int_cell HI.out (i := g + j) (by omega)
    have hdj := HD1.out _ (List.getElem_mem hlt)
    have HGx := getI_at hlt
    have HGy := getI_at (l := idx) (j := g + j) (by omega)
    have hlj := HLG.out j hlt
    have hr := HIR.out j hlt
    have ho2 := HOF.out (j + 1) (by omega)
    have hst : ofs sh l (j + 1) = ofs sh l j * sh.getD j 0 + l.getD j 0 := rfl
    rw [HGx] at hlj hr hst
    rw [HGy] at hlj
    generalize sh[j] = dj at hx hx1 hx2 hdj hlj hr hst
    generalize idx[g + j] = y at hy hy1 hy2 hlj
    obtain ⟨kk, hkk⟩ : ∃ k, l.getD j 0 = k := ⟨_, rfl⟩
    rw [hkk] at hlj hr hst
    obtain ⟨N2, hN2⟩ : ∃ x, ofs sh l (j + 1) = x := ⟨_, rfl⟩
    have HN2 := Lib.hid hN2
    rw [hN2] at hst ho2
    obtain ⟨N1, hN1⟩ : ∃ x, ofs sh l j = x := ⟨_, rfl⟩
    rw [hN1] at hst ho ⊢
    have hm0 : 0 ≤ N1 * dj := Int.mul_nonneg ho.1 (by omega)
    have hwj : IntKind.i64.wrap ((g : Int) + (j : Int)) = ((g + j : Nat) : Int) := by rw [IntKind.wrap_i64]; omega
    have hw1 : IntKind.i64.wrap (N1 * dj) = N1 * dj := by rw [IntKind.wrap_i64]; omega
    have hw := HW.out
    have hgj : g + j < idx.length := by omega
    clear hN1 hN2 hkk HGx HGy hx1 hx2 hy1 hy2
    by_cases h1 : dj = 1
    · have hb1 : (dj == 1) = true := beq_iff_eq.2 h1
      have hk0 : kk = 0 := hlj.1 h1
      have hw2 : IntKind.i64.wrap (N1 * dj) = N2 := by rw [hw1]; omega
      have HE : Hid (N1 * dj = N2) := Lib.hid (by omega)
      clear h1 hlj hst hm0 hr hk0 hw2
      go_wp2_with fail
      go_round
      case rel => exact ⟨j + 1, by omega, by go_num, by first | (rw [HN2.out, ← HE.out]) | (rw [HN2.out, ← HE.out]; go_num)⟩
      case measure => first | (simp [intOf]; done) | (simp [intOf]; omega)
    · have hb1 : (dj == 1) = false := beq_eq_false_iff_ne.2 h1
      have hk0 : kk = y := hlj.2 h1
      subst hk0
      have hw2 : IntKind.i64.wrap (N1 * dj + kk) = N2 := by rw [IntKind.wrap_i64]; omega
      clear h1 hlj hst hm0 hr
      go_wp2_with fail
      go_round
      case rel => exact ⟨j + 1, by omega, by go_num, by rw [HN2.out]⟩
      case measure => first | (simp [intOf]; done) | (simp [intOf]; omega)
end Go.Proofs.YtlppcfeimpcbjaaGreat
