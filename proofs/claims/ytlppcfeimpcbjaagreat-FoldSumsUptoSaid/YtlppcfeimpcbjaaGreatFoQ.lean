import Derived.Test.YtlppcfeimpcbjaaGreatFoldF
set_option linter.unusedSimpArgs false
set_option linter.unusedVariables false

/- The document's axes: has, Drop, Axes; an element of the document's list is written. -/
namespace Go.Proofs.YtlppcfeimpcbjaaGreat
open Go.RowKit Go.Shelf
attribute [local go_sem] Oper.semAt_some

set_option maxHeartbeats 2000000 in
theorem rhas_t {S : Nat → Prop} (w : World) (v : Value) (xs : List Int) (x : Int) (b : Bool) (hb : Hid (decide (x ∈ xs) = b)) (h : Sl Im S w v xs) :
    Calls Tryz.prog 101 #[v, .int .i64 x] w fun e w' => e = .returned (.bool b) ∧ w' = w := by
  obtain ⟨A, c, rfl, _, _, hlx⟩ := h.slice
  have H := Lib.hid h
  clear h
  go_enter Tryz.func101, Tryz.ntmps101
  go_wp2_with fail
  go_loop [5] (fun i => ∃ (j : Nat), j ≤ xs.length ∧ i = .int .i64 j ∧ Hid (x ∉ xs.take j)) (fun i => xs.length - (intOf i).toNat)
  case atStart => exact ⟨0, Nat.zero_le _, rfl, Lib.hid (by simp)⟩
  case round =>
    obtain ⟨j, hj, rfl, HX⟩ := hrel
    by_cases hlt : j < xs.length
    · obtain ⟨ad, rfl, hx, hx1, hx2⟩ := Kd.int_cell H.out (i := j) hlt
      have HM := Lib.hid (List.getElem_mem hlt)
      have HT := Lib.hid (List.take_append_getElem hlt)
      generalize xs[j] = d at hx hx1 hx2 HM HT
      by_cases he : d = x
      · subst he
        have hb1 : b = true := by rw [← hb.out]; exact decide_eq_true HM.out
        clear hb
        subst hb1
        go_wp2_with fail
        go_ret
        exact ⟨rfl, rfl⟩
      · have hb0 : (d == x) = false := beq_eq_false_iff_ne.2 he
        go_wp2_with fail
        go_round
        case rel => exact ⟨j + 1, by omega, by go_num, Lib.hid (by rw [← HT.out, List.mem_append, List.mem_singleton]; exact fun h => h.elim HX.out fun e => he e.symm)⟩
        case measure => first | (simp [intOf]; done) | (simp [intOf]; omega)
    · obtain rfl : j = xs.length := by omega
      have hb1 : b = false := by rw [← hb.out]; exact decide_eq_false (by have := HX.out; rwa [List.take_length] at this)
      clear hb
      subst hb1
      go_wp2_with fail
      go_ret
      exact ⟨rfl, rfl⟩
set_option maxHeartbeats 4000000 in
theorem r6drop_t {S T : Nat → Prop} (w : World) (va vb : Value) (sh axes : List Int) (ha : Sl Im S w va sh) (hb : Sl Im T w vb axes) (hl : sh.length ≤ 1099511627000) :
    Calls Tryz.prog 55 #[va, vb] w fun e w' => ∃ v, e = .returned v ∧ Own Im 3 (fun k => w.heap.size ≤ k) w' v (dropI axes 0 sh) ∧ Fr (fun k => k < w.heap.size) w w' := by
  obtain ⟨A, c, rfl, _, _, hlx⟩ := ha.slice
  obtain ⟨A', c', rfl, _, _, hly⟩ := hb.slice
  have HA := Lib.hid (ha.low Im_pos)
  have HB := Lib.hid (hb.low Im_pos)
  clear ha hb
  go_enter Tryz.func55, Tryz.ntmps55
  go_wp2_with fail
  go_loopw [5, 6] (fun o i wr => ∃ (j : Nat), j ≤ sh.length ∧ i = .int .i64 j ∧ Own Im 3 (fun k => w.heap.size ≤ k) wr o (dropI axes 0 (sh.take j)) ∧ Fr (fun k => k < w.heap.size) w wr) (fun _ i _ => sh.length - (intOf i).toNat)
  case atStart => exact ⟨0, Nat.zero_le _, rfl, Own.nil _ _ _ _, Fr.refl _ _⟩
  case round =>
    obtain ⟨j, hj, rfl, ho, F⟩ := hrel
    obtain ⟨B, n, d, hB⟩ := ho.form
    subst hB
    by_cases hlt : j < sh.length
    · have HS := HA.out.fr F
      have HX := HB.out.fr F
      obtain ⟨ad, rfl, hx, hx1, hx2⟩ := Kd.int_cell HS (i := j) hlt
      have htk : sh.take (j + 1) = sh.take j ++ [sh[j]] := (List.take_append_getElem hlt).symm
      have hle : (dropI axes 0 (sh.take j)).length ≤ j := Nat.le_trans drop_len (by rw [List.length_take]; omega)
      have hsn : dropI axes 0 (sh.take (j + 1)) = dropI axes 0 (sh.take j) ++ (if (j : Int) ∈ axes then [] else [sh[j]]) := by
        rw [htk, drop_snoc, List.length_take, show 0 + min j sh.length = j by omega]
      have HSN := Lib.hid hsn
      clear htk hsn
      generalize sh[j] = y at hx hx1 hx2 HSN
      obtain ⟨b, hb⟩ : ∃ b, decide ((j : Int) ∈ axes) = b := ⟨_, rfl⟩
      have P := Lib.hid (rhas_t wr (.slice A' axes.length c') axes (j : Int) b (Lib.hid hb) HX)
      have HBB := Lib.hid hb
      clear hb HS HX
      go_wp2_with fail
      with_reducible refine P.out.mono ?_
      rintro e u ⟨rfl, hu⟩
      subst hu
      cases b with
      | true =>
        rw [if_pos (of_decide_eq_true HBB.out), List.append_nil] at HSN
        go_wp2_with fail
        go_roundw
        case rel => exact ⟨j + 1, by omega, by go_num, by rw [HSN.out]; exact ho, F⟩
        case measure => first | (simp [intOf]; done) | (simp [intOf]; omega)
      | false =>
        rw [if_neg (of_decide_eq_false HBB.out)] at HSN
        have hrd : Im.rd (fun _ => False) u y [.int .i64 y] := ⟨rfl, hx1, hx2⟩
        have HR := Lib.hid hrd
        have HLn := Lib.hid (show ((dropI axes 0 (sh.take j)).length + 1) * 8 ≤ 140737488355328 ∧ (dropI axes 0 (sh.take j)).length + 1 ≤ 9223372036854775807 by omega)
        clear hrd hle
        go_wp2_with (at_builtin; refine wpList_push1 (v := .slice B n d) imT2 rfl rfl rfl rfl ho HR.out (fun _ h => h.elim) (fun k hk => by have := F.size; omega) HLn.out.1 HLn.out.2 ?_; intro v' w1 hown hfr hat; obtain ⟨B1, n1, d1, rfl⟩ := hown.form)
        go_roundw
        case rel => exact ⟨j + 1, by omega, by go_num, by rw [HSN.out]; exact hown, F.push ho hfr (fun k hk _ => by omega)⟩
        case measure => first | (simp [intOf]; done) | (simp [intOf]; omega)
    · obtain rfl : j = sh.length := by omega
      rw [List.take_length] at ho
      go_wp2_with fail
      go_ret
      exact ⟨_, rfl, ho, F⟩
theorem rise_last {axes : List Int} (h : Rise axes) : ∀ (k i : Nat), i + k + 1 = axes.length → axes.getD i 0 ≤ axes.getD (axes.length - 1) 0
  | 0, i, e => by rw [show axes.length - 1 = i by omega]; exact Int.le_refl _
  | k + 1, i, e => by
    have h1 := (h (i + 1) (by omega)).2 (by omega)
    rw [Nat.add_sub_cancel] at h1
    have h2 := rise_last h k (i + 1) (by omega)
    omega
theorem rise_below {axes : List Int} (h : Rise axes) {n : Int} (h0 : 0 < axes.length → axes.getD (axes.length - 1) 0 < n) : ∀ x ∈ axes, x < n := fun x hx => by
  obtain ⟨i, hi, rfl⟩ := List.mem_iff_getElem.1 hx
  have h1 := rise_last h (axes.length - 1 - i) i (by omega)
  have h2 := h0 (by omega)
  rw [getI_at hi] at h1
  omega
set_option maxHeartbeats 8000000 in
theorem raxes_t {S : Nat → Prop} (w : World) (v : Value) (axes : List Int) (n : Nat) (r : Int) (hr : Hid (axE axes n = r)) (h : Sl Im S w v axes) :
    Calls Tryz.prog 54 #[v, .int .i64 (n : Int)] w fun e w' => e = .returned (.int .i64 r) ∧ Fr (fun _ => True) w w' := by
  obtain ⟨A, c, rfl, _, _, hlx⟩ := h.slice
  have H := Lib.hid (h.low Im_pos)
  clear h
  go_enter Tryz.func54, Tryz.ntmps54
  go_wp2_with fail
  go_loopw [5] (fun i wr => ∃ (j : Nat), j ≤ axes.length ∧ i = .int .i64 j ∧ Hid (∀ k, k < j → 0 ≤ axes.getD k 0 ∧ (0 < k → axes.getD (k - 1) 0 < axes.getD k 0)) ∧ Fr (fun _ => True) w wr) (fun i _ => axes.length - (intOf i).toNat)
  case atStart => exact ⟨0, Nat.zero_le _, rfl, Lib.hid (fun k hk => by omega), Fr.refl _ _⟩
  case round =>
    obtain ⟨j, hj, rfl, HK, F⟩ := hrel
    have HF := Lib.hid (H.out.fr ((F.drew).mono fun _ _ _ => trivial))
    have HG0 := Lib.hid (H.out.fr (F.mono fun _ _ _ => trivial))
    have FD := F.drew
    by_cases hlt : j < axes.length
    · obtain ⟨ad, rfl, hx, hx1, hx2⟩ := Kd.int_cell HF.out (i := j) hlt
      have HG := Lib.hid (getI_at hlt)
      have hbad : ∀ (hc : axes[j] < 0 ∨ (0 < j ∧ axes[j] ≤ axes.getD (j - 1) 0)), r = 11 := fun hc => hr.out.symm.trans (if_neg fun h1 => by
        have h3 := h1 j hlt
        rw [HG.out] at h3
        rcases hc with hc | hc
        · omega
        · have := h3.2 hc.1; omega)
      generalize axes[j] = y at hx hx1 hx2 HG hbad
      by_cases h1 : y < 0
      · have HN := hbad (.inl h1)
        clear hbad
        go_wp2_with fail
        refine wpTill.begin (fun _ => True) 20 (by kernel_rfl) ?_
        change wpTill _ _ _ _ _ _ 21 _ _ _
        refine wpTill.free (jj := 20) (m := 0) [(0, Fact.eq (.slice (some ad) axes.length c)),
      (1, Fact.eq (.int .i64 (j : Int))),
      (2, Fact.eq (.pointer (some (ad.add j)))),
      (3, Fact.eq (.int .i64 y)),
      (4, Fact.eq (.bool true)),
      (5, Fact.eq (.bool true)),
      (6, Fact.eq undef),
      (7, Fact.eq undef),
      (8, Fact.eq undef),
      (9, Fact.eq undef),
      (10, Fact.eq undef),
      (11, Fact.eq undef),
      (12, Fact.eq undef),
      (13, Fact.eq undef),
      (14, Fact.eq undef),
      (15, Fact.eq undef),
      (16, Fact.eq undef),
      (17, Fact.eq undef),
      (18, Fact.eq undef),
      (19, Fact.eq undef),
      (20, Fact.eq (.bool true))] [] [0, 0, 3, 7, 15, 31, 63, 127, 255, 511, 511, 2047, 4095, 511, 511, 16895, 57855, 123391, 262143, 524287, 1048575] [] ?_ (by kernel_rfl) (by kernel_rfl) (by kernel_rfl) [(0, some 12), (1, some 13), (2, some 14), (3, some 15), (4, some 16), (5, some 17), (6, some 18), (7, some 19), (8, some 20), (9, some 21), (10, some 22), (11, some 23), (12, some 24), (13, some 25), (14, some 26), (15, some 27), (16, some 28), (17, some 29), (18, some 30), (19, some 31), (20, some 32)] (by kernel_rfl) ?hA ?hQ (fun _ _ => trivial) (by kernel_rfl) ?steps ?looses ?cont
        case hQ => exact fun _ _ _ _ _ h => h
        case hA =>
          intro vs
          simp only [fillD, List.foldl_cons, List.foldl_nil, Act.put, List.setIfInBounds_toArray, List.set_cons_zero, List.set_cons_succ]
          exact rfl
        case steps =>
          refine ⟨?_, ?_, ?_, ?_, ?_, ?_, ?_, ?_, ?_, ?_, ?_, ?_, ?_, ?_, ?_, ?_, ?_, ?_, ?_, ?_, ?_, trivial⟩
          · rintro vs u ⟨hV0, hV1, hV2, hV3, hV4, hV5, hV6, hV7, hV8, hV9, hV10, hV11, hV12, hV13, hV14, hV15, hV16, hV17, hV18, hV19, hV20, -⟩ G
            exact stepAt.pure (v := .slice (some ad) axes.length c) rfl rfl (by go_simp) rfl
          · rintro vs u ⟨hV0, hV1, hV2, hV3, hV4, hV5, hV6, hV7, hV8, hV9, hV10, hV11, hV12, hV13, hV14, hV15, hV16, hV17, hV18, hV19, hV20, -⟩ G
            exact stepAt.pure (v := .int .i64 (j : Int)) rfl rfl (by go_simp) rfl
          · rintro vs u ⟨hV0, hV1, hV2, hV3, hV4, hV5, hV6, hV7, hV8, hV9, hV10, hV11, hV12, hV13, hV14, hV15, hV16, hV17, hV18, hV19, hV20, -⟩ G
            have eV0 : vs 0 = .slice (some ad) axes.length c := hV0 rfl
            have eV1 : vs 1 = .int .i64 (j : Int) := hV1 rfl
            exact stepAt.pure (v := .pointer (some (ad.add j))) rfl rfl (by simp only [eV0, eV1]; go_simp <;> omega) rfl
          · rintro vs u ⟨hV0, hV1, hV2, hV3, hV4, hV5, hV6, hV7, hV8, hV9, hV10, hV11, hV12, hV13, hV14, hV15, hV16, hV17, hV18, hV19, hV20, -⟩ G
            have o0 := G.cell hx (World.block_lt_of_cell? _ _ hx)
            have eV2 : vs 2 = .pointer (some (ad.add j)) := hV2 rfl
            exact stepAt.pure (v := .int .i64 y) rfl rfl (by simp only [eV2]; go_simp) rfl
          · rintro vs u ⟨hV0, hV1, hV2, hV3, hV4, hV5, hV6, hV7, hV8, hV9, hV10, hV11, hV12, hV13, hV14, hV15, hV16, hV17, hV18, hV19, hV20, -⟩ G
            have eV3 : vs 3 = .int .i64 y := hV3 rfl
            exact stepAt.pure (v := .bool true) rfl rfl (by simp only [eV3]; go_simp <;> omega) rfl
          · rintro vs u ⟨hV0, hV1, hV2, hV3, hV4, hV5, hV6, hV7, hV8, hV9, hV10, hV11, hV12, hV13, hV14, hV15, hV16, hV17, hV18, hV19, hV20, -⟩ G
            have eV4 : vs 4 = .bool true := hV4 rfl
            exact stepAt.pure (v := .bool true) rfl rfl (by simp only [eV4]; go_simp) rfl
          · rintro vs u ⟨hV0, hV1, hV2, hV3, hV4, hV5, hV6, hV7, hV8, hV9, hV10, hV11, hV12, hV13, hV14, hV15, hV16, hV17, hV18, hV19, hV20, -⟩ G
            exact stepAt.unwanted rfl (wanted_not (g := 5) (b := false) (t := 17) rfl (by kernel_rfl) (congrArg some (show vs 5 = _ from hV5 rfl))) rfl
          · rintro vs u ⟨hV0, hV1, hV2, hV3, hV4, hV5, hV6, hV7, hV8, hV9, hV10, hV11, hV12, hV13, hV14, hV15, hV16, hV17, hV18, hV19, hV20, -⟩ G
            exact stepAt.unwanted rfl (wanted_not (g := 5) (b := false) (t := 17) rfl (by kernel_rfl) (congrArg some (show vs 5 = _ from hV5 rfl))) rfl
          · rintro vs u ⟨hV0, hV1, hV2, hV3, hV4, hV5, hV6, hV7, hV8, hV9, hV10, hV11, hV12, hV13, hV14, hV15, hV16, hV17, hV18, hV19, hV20, -⟩ G
            exact stepAt.unwanted rfl (wanted_not (g := 5) (b := false) (t := 17) rfl (by kernel_rfl) (congrArg some (show vs 5 = _ from hV5 rfl))) rfl
          · rintro vs u ⟨hV0, hV1, hV2, hV3, hV4, hV5, hV6, hV7, hV8, hV9, hV10, hV11, hV12, hV13, hV14, hV15, hV16, hV17, hV18, hV19, hV20, -⟩ G
            exact stepAt.unwanted rfl (wanted_undef (g := 8) (b := true) (t := 20) rfl (by kernel_rfl) (congrArg some (show vs 8 = _ from hV8 rfl))) rfl
          · rintro vs u ⟨hV0, hV1, hV2, hV3, hV4, hV5, hV6, hV7, hV8, hV9, hV10, hV11, hV12, hV13, hV14, hV15, hV16, hV17, hV18, hV19, hV20, -⟩ G
            exact stepAt.unwanted rfl (wanted_undef (g := 8) (b := true) (t := 20) rfl (by kernel_rfl) (congrArg some (show vs 8 = _ from hV8 rfl))) rfl
          · rintro vs u ⟨hV0, hV1, hV2, hV3, hV4, hV5, hV6, hV7, hV8, hV9, hV10, hV11, hV12, hV13, hV14, hV15, hV16, hV17, hV18, hV19, hV20, -⟩ G
            exact stepAt.unwanted rfl (wanted_undef (g := 8) (b := true) (t := 20) rfl (by kernel_rfl) (congrArg some (show vs 8 = _ from hV8 rfl))) rfl
          · rintro vs u ⟨hV0, hV1, hV2, hV3, hV4, hV5, hV6, hV7, hV8, hV9, hV10, hV11, hV12, hV13, hV14, hV15, hV16, hV17, hV18, hV19, hV20, -⟩ G
            exact stepAt.unwanted rfl (wanted_undef (g := 8) (b := true) (t := 20) rfl (by kernel_rfl) (congrArg some (show vs 8 = _ from hV8 rfl))) rfl
          · rintro vs u ⟨hV0, hV1, hV2, hV3, hV4, hV5, hV6, hV7, hV8, hV9, hV10, hV11, hV12, hV13, hV14, hV15, hV16, hV17, hV18, hV19, hV20, -⟩ G
            exact stepAt.unwanted rfl (wanted_undef (g := 8) (b := true) (t := 20) rfl (by kernel_rfl) (congrArg some (show vs 8 = _ from hV8 rfl))) rfl
          · rintro vs u ⟨hV0, hV1, hV2, hV3, hV4, hV5, hV6, hV7, hV8, hV9, hV10, hV11, hV12, hV13, hV14, hV15, hV16, hV17, hV18, hV19, hV20, -⟩ G
            exact stepAt.unwanted rfl (wanted_undef (g := 8) (b := true) (t := 20) rfl (by kernel_rfl) (congrArg some (show vs 8 = _ from hV8 rfl))) rfl
          · rintro vs u ⟨hV0, hV1, hV2, hV3, hV4, hV5, hV6, hV7, hV8, hV9, hV10, hV11, hV12, hV13, hV14, hV15, hV16, hV17, hV18, hV19, hV20, -⟩ G
            exact stepAt.unwanted rfl (wanted_undef (g := 8) (b := true) (t := 20) rfl (by kernel_rfl) (congrArg some (show vs 8 = _ from hV8 rfl))) rfl
          · rintro vs u ⟨hV0, hV1, hV2, hV3, hV4, hV5, hV6, hV7, hV8, hV9, hV10, hV11, hV12, hV13, hV14, hV15, hV16, hV17, hV18, hV19, hV20, -⟩ G
            exact stepAt.unwanted rfl (wanted_undef (g := 8) (b := true) (t := 20) rfl (by kernel_rfl) (congrArg some (show vs 8 = _ from hV8 rfl))) rfl
          · rintro vs u ⟨hV0, hV1, hV2, hV3, hV4, hV5, hV6, hV7, hV8, hV9, hV10, hV11, hV12, hV13, hV14, hV15, hV16, hV17, hV18, hV19, hV20, -⟩ G
            exact stepAt.unwanted rfl (wanted_undef (g := 8) (b := true) (t := 20) rfl (by kernel_rfl) (congrArg some (show vs 8 = _ from hV8 rfl))) rfl
          · rintro vs u ⟨hV0, hV1, hV2, hV3, hV4, hV5, hV6, hV7, hV8, hV9, hV10, hV11, hV12, hV13, hV14, hV15, hV16, hV17, hV18, hV19, hV20, -⟩ G
            exact stepAt.unwanted rfl (wanted_undef (g := 8) (b := true) (t := 20) rfl (by kernel_rfl) (congrArg some (show vs 8 = _ from hV8 rfl))) rfl
          · rintro vs u ⟨hV0, hV1, hV2, hV3, hV4, hV5, hV6, hV7, hV8, hV9, hV10, hV11, hV12, hV13, hV14, hV15, hV16, hV17, hV18, hV19, hV20, -⟩ G
            exact stepAt.unwanted rfl (wanted_not (g := 5) (b := false) (t := 17) rfl (by kernel_rfl) (congrArg some (show vs 5 = _ from hV5 rfl))) rfl
          · rintro vs u ⟨hV0, hV1, hV2, hV3, hV4, hV5, hV6, hV7, hV8, hV9, hV10, hV11, hV12, hV13, hV14, hV15, hV16, hV17, hV18, hV19, hV20, -⟩ G
            have eV5 : vs 5 = .bool true := hV5 rfl
            have eV19 : vs 19 = undef := hV19 rfl
            exact stepAt.pure (v := .bool true) rfl rfl (by simp only [eV5, eV19]; go_simp) rfl
        case looses =>
          exact trivial
        case cont =>
          rintro vs u ⟨hV0, hV1, hV2, hV3, hV4, hV5, hV6, hV7, hV8, hV9, hV10, hV11, hV12, hV13, hV14, hV15, hV16, hV17, hV18, hV19, hV20, -⟩ G
          have eV0 : vs 0 = .slice (some ad) axes.length c := hV0
          have eV1 : vs 1 = .int .i64 (j : Int) := hV1
          have eV2 : vs 2 = .pointer (some (ad.add j)) := hV2
          have eV3 : vs 3 = .int .i64 y := hV3
          have eV4 : vs 4 = .bool true := hV4
          have eV5 : vs 5 = .bool true := hV5
          have eV6 : vs 6 = undef := hV6
          have eV7 : vs 7 = undef := hV7
          have eV8 : vs 8 = undef := hV8
          have eV9 : vs 9 = undef := hV9
          have eV10 : vs 10 = undef := hV10
          have eV11 : vs 11 = undef := hV11
          have eV12 : vs 12 = undef := hV12
          have eV13 : vs 13 = undef := hV13
          have eV14 : vs 14 = undef := hV14
          have eV15 : vs 15 = undef := hV15
          have eV16 : vs 16 = undef := hV16
          have eV17 : vs 17 = undef := hV17
          have eV18 : vs 18 = undef := hV18
          have eV19 : vs 19 = undef := hV19
          have eV20 : vs 20 = .bool true := hV20
          simp only [eV0, eV1, eV2, eV3, eV4, eV5, eV6, eV7, eV8, eV9, eV10, eV11, eV12, eV13, eV14, eV15, eV16, eV17, eV18, eV19, eV20]
          clear eV0 eV1 eV2 eV3 eV4 eV5 eV6 eV7 eV8 eV9 eV10 eV11 eV12 eV13 eV14 eV15 eV16 eV17 eV18 eV19 eV20 hV0 hV1 hV2 hV3 hV4 hV5 hV6 hV7 hV8 hV9 hV10 hV11 hV12 hV13 hV14 hV15 hV16 hV17 hV18 hV19 hV20
          refine wpTill.done (by kernel_rfl) ?_
          have FU := FD.trans (G.mono fun k hk _ => hk)
          go_wp2_with fail
          go_ret
          exact ⟨by first | rfl | (rw [HN]; rfl), FU⟩
      · by_cases h2 : 0 < j
        · obtain ⟨ad', hA', hz, hz1, hz2⟩ := Kd.int_cell HF.out (i := j - 1) (by omega)
          cases hA'
          have HG' := Lib.hid (getI_at (l := axes) (j := j - 1) (by omega))
          rw [HG'.out] at hbad
          generalize axes[j - 1] = z at hz hz1 hz2 HG' hbad
          have hw : IntKind.i64.wrap ((j : Int) - 1) = ((j - 1 : Nat) : Int) := by rw [IntKind.wrap_i64]; omega
          by_cases h3 : y ≤ z
          · have HN := hbad (.inr ⟨h2, h3⟩)
            clear hbad
            go_wp2_with fail
            refine wpTill.begin (fun _ => True) 20 (by kernel_rfl) ?_
            change wpTill _ _ _ _ _ _ 21 _ _ _
            refine wpTill.free (jj := 20) (m := 0) [(0, Fact.eq (.slice (some ad) axes.length c)),
      (1, Fact.eq (.int .i64 (j : Int))),
      (2, Fact.eq (.pointer (some (ad.add j)))),
      (3, Fact.eq (.int .i64 y)),
      (4, Fact.eq (.bool false)),
      (5, Fact.eq (.bool false)),
      (6, Fact.eq (.int .i64 (j : Int))),
      (7, Fact.eq (.bool true)),
      (8, Fact.eq (.bool true)),
      (9, Fact.eq (.slice (some ad) axes.length c)),
      (10, Fact.eq (.int .i64 (j : Int))),
      (11, Fact.eq (.pointer (some (ad.add j)))),
      (12, Fact.eq (.int .i64 y)),
      (13, Fact.eq (.slice (some ad) axes.length c)),
      (14, Fact.eq (.int .i64 (j : Int))),
      (15, Fact.eq (.int .i64 ((j - 1 : Nat) : Int))),
      (16, Fact.eq (.pointer (some (ad.add (j - 1))))),
      (17, Fact.eq (.int .i64 z)),
      (18, Fact.eq (.bool true)),
      (19, Fact.eq (.bool true)),
      (20, Fact.eq (.bool true))] [] [0, 0, 3, 7, 15, 31, 63, 127, 255, 511, 511, 2047, 4095, 511, 511, 16895, 57855, 123391, 262143, 524287, 1048575] [] ?_ (by kernel_rfl) (by kernel_rfl) (by kernel_rfl) [(0, some 12), (1, some 13), (2, some 14), (3, some 15), (4, some 16), (5, some 17), (6, some 18), (7, some 19), (8, some 20), (9, some 21), (10, some 22), (11, some 23), (12, some 24), (13, some 25), (14, some 26), (15, some 27), (16, some 28), (17, some 29), (18, some 30), (19, some 31), (20, some 32)] (by kernel_rfl) ?hA ?hQ (fun _ _ => trivial) (by kernel_rfl) ?steps ?looses ?cont
            case hQ => exact fun _ _ _ _ _ h => h
            case hA =>
              intro vs
              simp only [fillD, List.foldl_cons, List.foldl_nil, Act.put, List.setIfInBounds_toArray, List.set_cons_zero, List.set_cons_succ]
              exact rfl
            case steps =>
              refine ⟨?_, ?_, ?_, ?_, ?_, ?_, ?_, ?_, ?_, ?_, ?_, ?_, ?_, ?_, ?_, ?_, ?_, ?_, ?_, ?_, ?_, trivial⟩
              · rintro vs u ⟨hV0, hV1, hV2, hV3, hV4, hV5, hV6, hV7, hV8, hV9, hV10, hV11, hV12, hV13, hV14, hV15, hV16, hV17, hV18, hV19, hV20, -⟩ G
                exact stepAt.pure (v := .slice (some ad) axes.length c) rfl rfl (by go_simp) rfl
              · rintro vs u ⟨hV0, hV1, hV2, hV3, hV4, hV5, hV6, hV7, hV8, hV9, hV10, hV11, hV12, hV13, hV14, hV15, hV16, hV17, hV18, hV19, hV20, -⟩ G
                exact stepAt.pure (v := .int .i64 (j : Int)) rfl rfl (by go_simp) rfl
              · rintro vs u ⟨hV0, hV1, hV2, hV3, hV4, hV5, hV6, hV7, hV8, hV9, hV10, hV11, hV12, hV13, hV14, hV15, hV16, hV17, hV18, hV19, hV20, -⟩ G
                have eV0 : vs 0 = .slice (some ad) axes.length c := hV0 rfl
                have eV1 : vs 1 = .int .i64 (j : Int) := hV1 rfl
                exact stepAt.pure (v := .pointer (some (ad.add j))) rfl rfl (by simp only [eV0, eV1]; go_simp <;> omega) rfl
              · rintro vs u ⟨hV0, hV1, hV2, hV3, hV4, hV5, hV6, hV7, hV8, hV9, hV10, hV11, hV12, hV13, hV14, hV15, hV16, hV17, hV18, hV19, hV20, -⟩ G
                have o0 := G.cell hx (World.block_lt_of_cell? _ _ hx)
                have eV2 : vs 2 = .pointer (some (ad.add j)) := hV2 rfl
                exact stepAt.pure (v := .int .i64 y) rfl rfl (by simp only [eV2]; go_simp) rfl
              · rintro vs u ⟨hV0, hV1, hV2, hV3, hV4, hV5, hV6, hV7, hV8, hV9, hV10, hV11, hV12, hV13, hV14, hV15, hV16, hV17, hV18, hV19, hV20, -⟩ G
                have eV3 : vs 3 = .int .i64 y := hV3 rfl
                exact stepAt.pure (v := .bool false) rfl rfl (by simp only [eV3]; go_simp <;> omega) rfl
              · rintro vs u ⟨hV0, hV1, hV2, hV3, hV4, hV5, hV6, hV7, hV8, hV9, hV10, hV11, hV12, hV13, hV14, hV15, hV16, hV17, hV18, hV19, hV20, -⟩ G
                have eV4 : vs 4 = .bool false := hV4 rfl
                exact stepAt.pure (v := .bool false) rfl rfl (by simp only [eV4]; go_simp) rfl
              · rintro vs u ⟨hV0, hV1, hV2, hV3, hV4, hV5, hV6, hV7, hV8, hV9, hV10, hV11, hV12, hV13, hV14, hV15, hV16, hV17, hV18, hV19, hV20, -⟩ G
                exact stepAt.pure (v := .int .i64 (j : Int)) rfl (wanted_by (g := 5) (b := false) (t := 17) rfl (by kernel_rfl) (congrArg some (show vs 5 = _ from hV5 rfl))) (by go_simp) rfl
              · rintro vs u ⟨hV0, hV1, hV2, hV3, hV4, hV5, hV6, hV7, hV8, hV9, hV10, hV11, hV12, hV13, hV14, hV15, hV16, hV17, hV18, hV19, hV20, -⟩ G
                have eV6 : vs 6 = .int .i64 (j : Int) := hV6 rfl
                exact stepAt.pure (v := .bool true) rfl (wanted_by (g := 5) (b := false) (t := 17) rfl (by kernel_rfl) (congrArg some (show vs 5 = _ from hV5 rfl))) (by simp only [eV6]; go_simp <;> omega) rfl
              · rintro vs u ⟨hV0, hV1, hV2, hV3, hV4, hV5, hV6, hV7, hV8, hV9, hV10, hV11, hV12, hV13, hV14, hV15, hV16, hV17, hV18, hV19, hV20, -⟩ G
                have eV7 : vs 7 = .bool true := hV7 rfl
                exact stepAt.pure (v := .bool true) rfl (wanted_by (g := 5) (b := false) (t := 17) rfl (by kernel_rfl) (congrArg some (show vs 5 = _ from hV5 rfl))) (by simp only [eV7]; go_simp) rfl
              · rintro vs u ⟨hV0, hV1, hV2, hV3, hV4, hV5, hV6, hV7, hV8, hV9, hV10, hV11, hV12, hV13, hV14, hV15, hV16, hV17, hV18, hV19, hV20, -⟩ G
                exact stepAt.pure (v := .slice (some ad) axes.length c) rfl (wanted_by (g := 8) (b := true) (t := 20) rfl (by kernel_rfl) (congrArg some (show vs 8 = _ from hV8 rfl))) (by go_simp) rfl
              · rintro vs u ⟨hV0, hV1, hV2, hV3, hV4, hV5, hV6, hV7, hV8, hV9, hV10, hV11, hV12, hV13, hV14, hV15, hV16, hV17, hV18, hV19, hV20, -⟩ G
                exact stepAt.pure (v := .int .i64 (j : Int)) rfl (wanted_by (g := 8) (b := true) (t := 20) rfl (by kernel_rfl) (congrArg some (show vs 8 = _ from hV8 rfl))) (by go_simp) rfl
              · rintro vs u ⟨hV0, hV1, hV2, hV3, hV4, hV5, hV6, hV7, hV8, hV9, hV10, hV11, hV12, hV13, hV14, hV15, hV16, hV17, hV18, hV19, hV20, -⟩ G
                have eV9 : vs 9 = .slice (some ad) axes.length c := hV9 rfl
                have eV10 : vs 10 = .int .i64 (j : Int) := hV10 rfl
                exact stepAt.pure (v := .pointer (some (ad.add j))) rfl (wanted_by (g := 8) (b := true) (t := 20) rfl (by kernel_rfl) (congrArg some (show vs 8 = _ from hV8 rfl))) (by simp only [eV9, eV10]; go_simp <;> omega) rfl
              · rintro vs u ⟨hV0, hV1, hV2, hV3, hV4, hV5, hV6, hV7, hV8, hV9, hV10, hV11, hV12, hV13, hV14, hV15, hV16, hV17, hV18, hV19, hV20, -⟩ G
                have o0 := G.cell hx (World.block_lt_of_cell? _ _ hx)
                have eV11 : vs 11 = .pointer (some (ad.add j)) := hV11 rfl
                exact stepAt.pure (v := .int .i64 y) rfl (wanted_by (g := 8) (b := true) (t := 20) rfl (by kernel_rfl) (congrArg some (show vs 8 = _ from hV8 rfl))) (by simp only [eV11]; go_simp) rfl
              · rintro vs u ⟨hV0, hV1, hV2, hV3, hV4, hV5, hV6, hV7, hV8, hV9, hV10, hV11, hV12, hV13, hV14, hV15, hV16, hV17, hV18, hV19, hV20, -⟩ G
                exact stepAt.pure (v := .slice (some ad) axes.length c) rfl (wanted_by (g := 8) (b := true) (t := 20) rfl (by kernel_rfl) (congrArg some (show vs 8 = _ from hV8 rfl))) (by go_simp) rfl
              · rintro vs u ⟨hV0, hV1, hV2, hV3, hV4, hV5, hV6, hV7, hV8, hV9, hV10, hV11, hV12, hV13, hV14, hV15, hV16, hV17, hV18, hV19, hV20, -⟩ G
                exact stepAt.pure (v := .int .i64 (j : Int)) rfl (wanted_by (g := 8) (b := true) (t := 20) rfl (by kernel_rfl) (congrArg some (show vs 8 = _ from hV8 rfl))) (by go_simp) rfl
              · rintro vs u ⟨hV0, hV1, hV2, hV3, hV4, hV5, hV6, hV7, hV8, hV9, hV10, hV11, hV12, hV13, hV14, hV15, hV16, hV17, hV18, hV19, hV20, -⟩ G
                have eV14 : vs 14 = .int .i64 (j : Int) := hV14 rfl
                exact stepAt.pure (v := .int .i64 ((j - 1 : Nat) : Int)) rfl (wanted_by (g := 8) (b := true) (t := 20) rfl (by kernel_rfl) (congrArg some (show vs 8 = _ from hV8 rfl))) (by simp only [eV14]; go_simp <;> (first | exact hw | omega)) rfl
              · rintro vs u ⟨hV0, hV1, hV2, hV3, hV4, hV5, hV6, hV7, hV8, hV9, hV10, hV11, hV12, hV13, hV14, hV15, hV16, hV17, hV18, hV19, hV20, -⟩ G
                have eV13 : vs 13 = .slice (some ad) axes.length c := hV13 rfl
                have eV15 : vs 15 = .int .i64 ((j - 1 : Nat) : Int) := hV15 rfl
                exact stepAt.pure (v := .pointer (some (ad.add (j - 1)))) rfl (wanted_by (g := 8) (b := true) (t := 20) rfl (by kernel_rfl) (congrArg some (show vs 8 = _ from hV8 rfl))) (by simp only [eV13, eV15]; go_simp <;> omega) rfl
              · rintro vs u ⟨hV0, hV1, hV2, hV3, hV4, hV5, hV6, hV7, hV8, hV9, hV10, hV11, hV12, hV13, hV14, hV15, hV16, hV17, hV18, hV19, hV20, -⟩ G
                have o0 := G.cell hz (World.block_lt_of_cell? _ _ hz)
                have eV16 : vs 16 = .pointer (some (ad.add (j - 1))) := hV16 rfl
                exact stepAt.pure (v := .int .i64 z) rfl (wanted_by (g := 8) (b := true) (t := 20) rfl (by kernel_rfl) (congrArg some (show vs 8 = _ from hV8 rfl))) (by simp only [eV16]; go_simp) rfl
              · rintro vs u ⟨hV0, hV1, hV2, hV3, hV4, hV5, hV6, hV7, hV8, hV9, hV10, hV11, hV12, hV13, hV14, hV15, hV16, hV17, hV18, hV19, hV20, -⟩ G
                have eV12 : vs 12 = .int .i64 y := hV12 rfl
                have eV17 : vs 17 = .int .i64 z := hV17 rfl
                exact stepAt.pure (v := .bool true) rfl (wanted_by (g := 8) (b := true) (t := 20) rfl (by kernel_rfl) (congrArg some (show vs 8 = _ from hV8 rfl))) (by simp only [eV12, eV17]; go_simp <;> omega) rfl
              · rintro vs u ⟨hV0, hV1, hV2, hV3, hV4, hV5, hV6, hV7, hV8, hV9, hV10, hV11, hV12, hV13, hV14, hV15, hV16, hV17, hV18, hV19, hV20, -⟩ G
                have eV8 : vs 8 = .bool true := hV8 rfl
                have eV18 : vs 18 = .bool true := hV18 rfl
                exact stepAt.pure (v := .bool true) rfl (wanted_by (g := 5) (b := false) (t := 17) rfl (by kernel_rfl) (congrArg some (show vs 5 = _ from hV5 rfl))) (by simp only [eV8, eV18]; go_simp) rfl
              · rintro vs u ⟨hV0, hV1, hV2, hV3, hV4, hV5, hV6, hV7, hV8, hV9, hV10, hV11, hV12, hV13, hV14, hV15, hV16, hV17, hV18, hV19, hV20, -⟩ G
                have eV5 : vs 5 = .bool false := hV5 rfl
                have eV19 : vs 19 = .bool true := hV19 rfl
                exact stepAt.pure (v := .bool true) rfl rfl (by simp only [eV5, eV19]; go_simp) rfl
            case looses =>
              exact trivial
            case cont =>
              rintro vs u ⟨hV0, hV1, hV2, hV3, hV4, hV5, hV6, hV7, hV8, hV9, hV10, hV11, hV12, hV13, hV14, hV15, hV16, hV17, hV18, hV19, hV20, -⟩ G
              have eV0 : vs 0 = .slice (some ad) axes.length c := hV0
              have eV1 : vs 1 = .int .i64 (j : Int) := hV1
              have eV2 : vs 2 = .pointer (some (ad.add j)) := hV2
              have eV3 : vs 3 = .int .i64 y := hV3
              have eV4 : vs 4 = .bool false := hV4
              have eV5 : vs 5 = .bool false := hV5
              have eV6 : vs 6 = .int .i64 (j : Int) := hV6
              have eV7 : vs 7 = .bool true := hV7
              have eV8 : vs 8 = .bool true := hV8
              have eV9 : vs 9 = .slice (some ad) axes.length c := hV9
              have eV10 : vs 10 = .int .i64 (j : Int) := hV10
              have eV11 : vs 11 = .pointer (some (ad.add j)) := hV11
              have eV12 : vs 12 = .int .i64 y := hV12
              have eV13 : vs 13 = .slice (some ad) axes.length c := hV13
              have eV14 : vs 14 = .int .i64 (j : Int) := hV14
              have eV15 : vs 15 = .int .i64 ((j - 1 : Nat) : Int) := hV15
              have eV16 : vs 16 = .pointer (some (ad.add (j - 1))) := hV16
              have eV17 : vs 17 = .int .i64 z := hV17
              have eV18 : vs 18 = .bool true := hV18
              have eV19 : vs 19 = .bool true := hV19
              have eV20 : vs 20 = .bool true := hV20
              simp only [eV0, eV1, eV2, eV3, eV4, eV5, eV6, eV7, eV8, eV9, eV10, eV11, eV12, eV13, eV14, eV15, eV16, eV17, eV18, eV19, eV20]
              clear eV0 eV1 eV2 eV3 eV4 eV5 eV6 eV7 eV8 eV9 eV10 eV11 eV12 eV13 eV14 eV15 eV16 eV17 eV18 eV19 eV20 hV0 hV1 hV2 hV3 hV4 hV5 hV6 hV7 hV8 hV9 hV10 hV11 hV12 hV13 hV14 hV15 hV16 hV17 hV18 hV19 hV20
              refine wpTill.done (by kernel_rfl) ?_
              have FU := FD.trans (G.mono fun k hk _ => hk)
              go_wp2_with fail
              go_ret
              exact ⟨by first | rfl | (rw [HN]; rfl), FU⟩
          · clear hbad
            go_wp2_with fail
            refine wpTill.begin (fun _ => True) 20 (by kernel_rfl) ?_
            change wpTill _ _ _ _ _ _ 21 _ _ _
            refine wpTill.free (jj := 20) (m := 0) [(0, Fact.eq (.slice (some ad) axes.length c)),
      (1, Fact.eq (.int .i64 (j : Int))),
      (2, Fact.eq (.pointer (some (ad.add j)))),
      (3, Fact.eq (.int .i64 y)),
      (4, Fact.eq (.bool false)),
      (5, Fact.eq (.bool false)),
      (6, Fact.eq (.int .i64 (j : Int))),
      (7, Fact.eq (.bool true)),
      (8, Fact.eq (.bool true)),
      (9, Fact.eq (.slice (some ad) axes.length c)),
      (10, Fact.eq (.int .i64 (j : Int))),
      (11, Fact.eq (.pointer (some (ad.add j)))),
      (12, Fact.eq (.int .i64 y)),
      (13, Fact.eq (.slice (some ad) axes.length c)),
      (14, Fact.eq (.int .i64 (j : Int))),
      (15, Fact.eq (.int .i64 ((j - 1 : Nat) : Int))),
      (16, Fact.eq (.pointer (some (ad.add (j - 1))))),
      (17, Fact.eq (.int .i64 z)),
      (18, Fact.eq (.bool false)),
      (19, Fact.eq (.bool false)),
      (20, Fact.eq (.bool false))] [] [0, 0, 3, 7, 15, 31, 63, 127, 255, 511, 511, 2047, 4095, 511, 511, 16895, 57855, 123391, 262143, 524287, 1048575] [] ?_ (by kernel_rfl) (by kernel_rfl) (by kernel_rfl) [(0, some 12), (1, some 13), (2, some 14), (3, some 15), (4, some 16), (5, some 17), (6, some 18), (7, some 19), (8, some 20), (9, some 21), (10, some 22), (11, some 23), (12, some 24), (13, some 25), (14, some 26), (15, some 27), (16, some 28), (17, some 29), (18, some 30), (19, some 31), (20, some 32)] (by kernel_rfl) ?hA ?hQ (fun _ _ => trivial) (by kernel_rfl) ?steps ?looses ?cont
            case hQ => exact fun _ _ _ _ _ h => h
            case hA =>
              intro vs
              simp only [fillD, List.foldl_cons, List.foldl_nil, Act.put, List.setIfInBounds_toArray, List.set_cons_zero, List.set_cons_succ]
              exact rfl
            case steps =>
              refine ⟨?_, ?_, ?_, ?_, ?_, ?_, ?_, ?_, ?_, ?_, ?_, ?_, ?_, ?_, ?_, ?_, ?_, ?_, ?_, ?_, ?_, trivial⟩
              · rintro vs u ⟨hV0, hV1, hV2, hV3, hV4, hV5, hV6, hV7, hV8, hV9, hV10, hV11, hV12, hV13, hV14, hV15, hV16, hV17, hV18, hV19, hV20, -⟩ G
                exact stepAt.pure (v := .slice (some ad) axes.length c) rfl rfl (by go_simp) rfl
              · rintro vs u ⟨hV0, hV1, hV2, hV3, hV4, hV5, hV6, hV7, hV8, hV9, hV10, hV11, hV12, hV13, hV14, hV15, hV16, hV17, hV18, hV19, hV20, -⟩ G
                exact stepAt.pure (v := .int .i64 (j : Int)) rfl rfl (by go_simp) rfl
              · rintro vs u ⟨hV0, hV1, hV2, hV3, hV4, hV5, hV6, hV7, hV8, hV9, hV10, hV11, hV12, hV13, hV14, hV15, hV16, hV17, hV18, hV19, hV20, -⟩ G
                have eV0 : vs 0 = .slice (some ad) axes.length c := hV0 rfl
                have eV1 : vs 1 = .int .i64 (j : Int) := hV1 rfl
                exact stepAt.pure (v := .pointer (some (ad.add j))) rfl rfl (by simp only [eV0, eV1]; go_simp <;> omega) rfl
              · rintro vs u ⟨hV0, hV1, hV2, hV3, hV4, hV5, hV6, hV7, hV8, hV9, hV10, hV11, hV12, hV13, hV14, hV15, hV16, hV17, hV18, hV19, hV20, -⟩ G
                have o0 := G.cell hx (World.block_lt_of_cell? _ _ hx)
                have eV2 : vs 2 = .pointer (some (ad.add j)) := hV2 rfl
                exact stepAt.pure (v := .int .i64 y) rfl rfl (by simp only [eV2]; go_simp) rfl
              · rintro vs u ⟨hV0, hV1, hV2, hV3, hV4, hV5, hV6, hV7, hV8, hV9, hV10, hV11, hV12, hV13, hV14, hV15, hV16, hV17, hV18, hV19, hV20, -⟩ G
                have eV3 : vs 3 = .int .i64 y := hV3 rfl
                exact stepAt.pure (v := .bool false) rfl rfl (by simp only [eV3]; go_simp <;> omega) rfl
              · rintro vs u ⟨hV0, hV1, hV2, hV3, hV4, hV5, hV6, hV7, hV8, hV9, hV10, hV11, hV12, hV13, hV14, hV15, hV16, hV17, hV18, hV19, hV20, -⟩ G
                have eV4 : vs 4 = .bool false := hV4 rfl
                exact stepAt.pure (v := .bool false) rfl rfl (by simp only [eV4]; go_simp) rfl
              · rintro vs u ⟨hV0, hV1, hV2, hV3, hV4, hV5, hV6, hV7, hV8, hV9, hV10, hV11, hV12, hV13, hV14, hV15, hV16, hV17, hV18, hV19, hV20, -⟩ G
                exact stepAt.pure (v := .int .i64 (j : Int)) rfl (wanted_by (g := 5) (b := false) (t := 17) rfl (by kernel_rfl) (congrArg some (show vs 5 = _ from hV5 rfl))) (by go_simp) rfl
              · rintro vs u ⟨hV0, hV1, hV2, hV3, hV4, hV5, hV6, hV7, hV8, hV9, hV10, hV11, hV12, hV13, hV14, hV15, hV16, hV17, hV18, hV19, hV20, -⟩ G
                have eV6 : vs 6 = .int .i64 (j : Int) := hV6 rfl
                exact stepAt.pure (v := .bool true) rfl (wanted_by (g := 5) (b := false) (t := 17) rfl (by kernel_rfl) (congrArg some (show vs 5 = _ from hV5 rfl))) (by simp only [eV6]; go_simp <;> omega) rfl
              · rintro vs u ⟨hV0, hV1, hV2, hV3, hV4, hV5, hV6, hV7, hV8, hV9, hV10, hV11, hV12, hV13, hV14, hV15, hV16, hV17, hV18, hV19, hV20, -⟩ G
                have eV7 : vs 7 = .bool true := hV7 rfl
                exact stepAt.pure (v := .bool true) rfl (wanted_by (g := 5) (b := false) (t := 17) rfl (by kernel_rfl) (congrArg some (show vs 5 = _ from hV5 rfl))) (by simp only [eV7]; go_simp) rfl
              · rintro vs u ⟨hV0, hV1, hV2, hV3, hV4, hV5, hV6, hV7, hV8, hV9, hV10, hV11, hV12, hV13, hV14, hV15, hV16, hV17, hV18, hV19, hV20, -⟩ G
                exact stepAt.pure (v := .slice (some ad) axes.length c) rfl (wanted_by (g := 8) (b := true) (t := 20) rfl (by kernel_rfl) (congrArg some (show vs 8 = _ from hV8 rfl))) (by go_simp) rfl
              · rintro vs u ⟨hV0, hV1, hV2, hV3, hV4, hV5, hV6, hV7, hV8, hV9, hV10, hV11, hV12, hV13, hV14, hV15, hV16, hV17, hV18, hV19, hV20, -⟩ G
                exact stepAt.pure (v := .int .i64 (j : Int)) rfl (wanted_by (g := 8) (b := true) (t := 20) rfl (by kernel_rfl) (congrArg some (show vs 8 = _ from hV8 rfl))) (by go_simp) rfl
              · rintro vs u ⟨hV0, hV1, hV2, hV3, hV4, hV5, hV6, hV7, hV8, hV9, hV10, hV11, hV12, hV13, hV14, hV15, hV16, hV17, hV18, hV19, hV20, -⟩ G
                have eV9 : vs 9 = .slice (some ad) axes.length c := hV9 rfl
                have eV10 : vs 10 = .int .i64 (j : Int) := hV10 rfl
                exact stepAt.pure (v := .pointer (some (ad.add j))) rfl (wanted_by (g := 8) (b := true) (t := 20) rfl (by kernel_rfl) (congrArg some (show vs 8 = _ from hV8 rfl))) (by simp only [eV9, eV10]; go_simp <;> omega) rfl
              · rintro vs u ⟨hV0, hV1, hV2, hV3, hV4, hV5, hV6, hV7, hV8, hV9, hV10, hV11, hV12, hV13, hV14, hV15, hV16, hV17, hV18, hV19, hV20, -⟩ G
                have o0 := G.cell hx (World.block_lt_of_cell? _ _ hx)
                have eV11 : vs 11 = .pointer (some (ad.add j)) := hV11 rfl
                exact stepAt.pure (v := .int .i64 y) rfl (wanted_by (g := 8) (b := true) (t := 20) rfl (by kernel_rfl) (congrArg some (show vs 8 = _ from hV8 rfl))) (by simp only [eV11]; go_simp) rfl
              · rintro vs u ⟨hV0, hV1, hV2, hV3, hV4, hV5, hV6, hV7, hV8, hV9, hV10, hV11, hV12, hV13, hV14, hV15, hV16, hV17, hV18, hV19, hV20, -⟩ G
                exact stepAt.pure (v := .slice (some ad) axes.length c) rfl (wanted_by (g := 8) (b := true) (t := 20) rfl (by kernel_rfl) (congrArg some (show vs 8 = _ from hV8 rfl))) (by go_simp) rfl
              · rintro vs u ⟨hV0, hV1, hV2, hV3, hV4, hV5, hV6, hV7, hV8, hV9, hV10, hV11, hV12, hV13, hV14, hV15, hV16, hV17, hV18, hV19, hV20, -⟩ G
                exact stepAt.pure (v := .int .i64 (j : Int)) rfl (wanted_by (g := 8) (b := true) (t := 20) rfl (by kernel_rfl) (congrArg some (show vs 8 = _ from hV8 rfl))) (by go_simp) rfl
              · rintro vs u ⟨hV0, hV1, hV2, hV3, hV4, hV5, hV6, hV7, hV8, hV9, hV10, hV11, hV12, hV13, hV14, hV15, hV16, hV17, hV18, hV19, hV20, -⟩ G
                have eV14 : vs 14 = .int .i64 (j : Int) := hV14 rfl
                exact stepAt.pure (v := .int .i64 ((j - 1 : Nat) : Int)) rfl (wanted_by (g := 8) (b := true) (t := 20) rfl (by kernel_rfl) (congrArg some (show vs 8 = _ from hV8 rfl))) (by simp only [eV14]; go_simp <;> (first | exact hw | omega)) rfl
              · rintro vs u ⟨hV0, hV1, hV2, hV3, hV4, hV5, hV6, hV7, hV8, hV9, hV10, hV11, hV12, hV13, hV14, hV15, hV16, hV17, hV18, hV19, hV20, -⟩ G
                have eV13 : vs 13 = .slice (some ad) axes.length c := hV13 rfl
                have eV15 : vs 15 = .int .i64 ((j - 1 : Nat) : Int) := hV15 rfl
                exact stepAt.pure (v := .pointer (some (ad.add (j - 1)))) rfl (wanted_by (g := 8) (b := true) (t := 20) rfl (by kernel_rfl) (congrArg some (show vs 8 = _ from hV8 rfl))) (by simp only [eV13, eV15]; go_simp <;> omega) rfl
              · rintro vs u ⟨hV0, hV1, hV2, hV3, hV4, hV5, hV6, hV7, hV8, hV9, hV10, hV11, hV12, hV13, hV14, hV15, hV16, hV17, hV18, hV19, hV20, -⟩ G
                have o0 := G.cell hz (World.block_lt_of_cell? _ _ hz)
                have eV16 : vs 16 = .pointer (some (ad.add (j - 1))) := hV16 rfl
                exact stepAt.pure (v := .int .i64 z) rfl (wanted_by (g := 8) (b := true) (t := 20) rfl (by kernel_rfl) (congrArg some (show vs 8 = _ from hV8 rfl))) (by simp only [eV16]; go_simp) rfl
              · rintro vs u ⟨hV0, hV1, hV2, hV3, hV4, hV5, hV6, hV7, hV8, hV9, hV10, hV11, hV12, hV13, hV14, hV15, hV16, hV17, hV18, hV19, hV20, -⟩ G
                have eV12 : vs 12 = .int .i64 y := hV12 rfl
                have eV17 : vs 17 = .int .i64 z := hV17 rfl
                exact stepAt.pure (v := .bool false) rfl (wanted_by (g := 8) (b := true) (t := 20) rfl (by kernel_rfl) (congrArg some (show vs 8 = _ from hV8 rfl))) (by simp only [eV12, eV17]; go_simp <;> omega) rfl
              · rintro vs u ⟨hV0, hV1, hV2, hV3, hV4, hV5, hV6, hV7, hV8, hV9, hV10, hV11, hV12, hV13, hV14, hV15, hV16, hV17, hV18, hV19, hV20, -⟩ G
                have eV8 : vs 8 = .bool true := hV8 rfl
                have eV18 : vs 18 = .bool false := hV18 rfl
                exact stepAt.pure (v := .bool false) rfl (wanted_by (g := 5) (b := false) (t := 17) rfl (by kernel_rfl) (congrArg some (show vs 5 = _ from hV5 rfl))) (by simp only [eV8, eV18]; go_simp) rfl
              · rintro vs u ⟨hV0, hV1, hV2, hV3, hV4, hV5, hV6, hV7, hV8, hV9, hV10, hV11, hV12, hV13, hV14, hV15, hV16, hV17, hV18, hV19, hV20, -⟩ G
                have eV5 : vs 5 = .bool false := hV5 rfl
                have eV19 : vs 19 = .bool false := hV19 rfl
                exact stepAt.pure (v := .bool false) rfl rfl (by simp only [eV5, eV19]; go_simp) rfl
            case looses =>
              exact trivial
            case cont =>
              rintro vs u ⟨hV0, hV1, hV2, hV3, hV4, hV5, hV6, hV7, hV8, hV9, hV10, hV11, hV12, hV13, hV14, hV15, hV16, hV17, hV18, hV19, hV20, -⟩ G
              have eV0 : vs 0 = .slice (some ad) axes.length c := hV0
              have eV1 : vs 1 = .int .i64 (j : Int) := hV1
              have eV2 : vs 2 = .pointer (some (ad.add j)) := hV2
              have eV3 : vs 3 = .int .i64 y := hV3
              have eV4 : vs 4 = .bool false := hV4
              have eV5 : vs 5 = .bool false := hV5
              have eV6 : vs 6 = .int .i64 (j : Int) := hV6
              have eV7 : vs 7 = .bool true := hV7
              have eV8 : vs 8 = .bool true := hV8
              have eV9 : vs 9 = .slice (some ad) axes.length c := hV9
              have eV10 : vs 10 = .int .i64 (j : Int) := hV10
              have eV11 : vs 11 = .pointer (some (ad.add j)) := hV11
              have eV12 : vs 12 = .int .i64 y := hV12
              have eV13 : vs 13 = .slice (some ad) axes.length c := hV13
              have eV14 : vs 14 = .int .i64 (j : Int) := hV14
              have eV15 : vs 15 = .int .i64 ((j - 1 : Nat) : Int) := hV15
              have eV16 : vs 16 = .pointer (some (ad.add (j - 1))) := hV16
              have eV17 : vs 17 = .int .i64 z := hV17
              have eV18 : vs 18 = .bool false := hV18
              have eV19 : vs 19 = .bool false := hV19
              have eV20 : vs 20 = .bool false := hV20
              simp only [eV0, eV1, eV2, eV3, eV4, eV5, eV6, eV7, eV8, eV9, eV10, eV11, eV12, eV13, eV14, eV15, eV16, eV17, eV18, eV19, eV20]
              clear eV0 eV1 eV2 eV3 eV4 eV5 eV6 eV7 eV8 eV9 eV10 eV11 eV12 eV13 eV14 eV15 eV16 eV17 eV18 eV19 eV20 hV0 hV1 hV2 hV3 hV4 hV5 hV6 hV7 hV8 hV9 hV10 hV11 hV12 hV13 hV14 hV15 hV16 hV17 hV18 hV19 hV20
              refine wpTill.done (by kernel_rfl) ?_
              have FU := FD.trans (G.mono fun k hk _ => hk)
              go_wp2_with fail
              go_roundw
              case rel =>
                refine ⟨j + 1, by omega, by go_num, Lib.hid fun k hk => ?_, FU⟩
                rcases Nat.lt_succ_iff_lt_or_eq.1 hk with h | rfl
                · exact HK.out k h
                · rw [HG.out, HG'.out]
                  exact ⟨by omega, fun _ => by omega⟩
              case measure => first | (simp [intOf]; done) | (simp [intOf]; omega)
        · clear hbad
          obtain rfl : j = 0 := by omega
          rw [addr_zero] at hx
          go_wp2_with fail
          refine wpTill.begin (fun _ => True) 20 (by kernel_rfl) ?_
          change wpTill _ _ _ _ _ _ 21 _ _ _
          refine wpTill.free (jj := 20) (m := 0) [(0, Fact.eq (.slice (some ad) axes.length c)),
      (1, Fact.eq (.int .i64 ((0 : Nat) : Int))),
      (2, Fact.eq (.pointer (some ad))),
      (3, Fact.eq (.int .i64 y)),
      (4, Fact.eq (.bool false)),
      (5, Fact.eq (.bool false)),
      (6, Fact.eq (.int .i64 ((0 : Nat) : Int))),
      (7, Fact.eq (.bool false)),
      (8, Fact.eq (.bool false)),
      (9, Fact.eq undef),
      (10, Fact.eq undef),
      (11, Fact.eq undef),
      (12, Fact.eq undef),
      (13, Fact.eq undef),
      (14, Fact.eq undef),
      (15, Fact.eq undef),
      (16, Fact.eq undef),
      (17, Fact.eq undef),
      (18, Fact.eq undef),
      (19, Fact.eq (.bool false)),
      (20, Fact.eq (.bool false))] [] [0, 0, 3, 7, 15, 31, 63, 127, 255, 511, 511, 2047, 4095, 511, 511, 16895, 57855, 123391, 262143, 524287, 1048575] [] ?_ (by kernel_rfl) (by kernel_rfl) (by kernel_rfl) [(0, some 12), (1, some 13), (2, some 14), (3, some 15), (4, some 16), (5, some 17), (6, some 18), (7, some 19), (8, some 20), (9, some 21), (10, some 22), (11, some 23), (12, some 24), (13, some 25), (14, some 26), (15, some 27), (16, some 28), (17, some 29), (18, some 30), (19, some 31), (20, some 32)] (by kernel_rfl) ?hA ?hQ (fun _ _ => trivial) (by kernel_rfl) ?steps ?looses ?cont
          case hQ => exact fun _ _ _ _ _ h => h
          case hA =>
            intro vs
            simp only [fillD, List.foldl_cons, List.foldl_nil, Act.put, List.setIfInBounds_toArray, List.set_cons_zero, List.set_cons_succ]
            exact rfl
          case steps =>
            refine ⟨?_, ?_, ?_, ?_, ?_, ?_, ?_, ?_, ?_, ?_, ?_, ?_, ?_, ?_, ?_, ?_, ?_, ?_, ?_, ?_, ?_, trivial⟩
            · rintro vs u ⟨hV0, hV1, hV2, hV3, hV4, hV5, hV6, hV7, hV8, hV9, hV10, hV11, hV12, hV13, hV14, hV15, hV16, hV17, hV18, hV19, hV20, -⟩ G
              exact stepAt.pure (v := .slice (some ad) axes.length c) rfl rfl (by go_simp) rfl
            · rintro vs u ⟨hV0, hV1, hV2, hV3, hV4, hV5, hV6, hV7, hV8, hV9, hV10, hV11, hV12, hV13, hV14, hV15, hV16, hV17, hV18, hV19, hV20, -⟩ G
              exact stepAt.pure (v := .int .i64 ((0 : Nat) : Int)) rfl rfl (by go_simp) rfl
            · rintro vs u ⟨hV0, hV1, hV2, hV3, hV4, hV5, hV6, hV7, hV8, hV9, hV10, hV11, hV12, hV13, hV14, hV15, hV16, hV17, hV18, hV19, hV20, -⟩ G
              have eV0 : vs 0 = .slice (some ad) axes.length c := hV0 rfl
              have eV1 : vs 1 = .int .i64 ((0 : Nat) : Int) := hV1 rfl
              exact stepAt.pure (v := .pointer (some ad)) rfl rfl (by simp only [eV0, eV1]; go_simp <;> omega) rfl
            · rintro vs u ⟨hV0, hV1, hV2, hV3, hV4, hV5, hV6, hV7, hV8, hV9, hV10, hV11, hV12, hV13, hV14, hV15, hV16, hV17, hV18, hV19, hV20, -⟩ G
              have o0 := G.cell hx (World.block_lt_of_cell? _ _ hx)
              have eV2 : vs 2 = .pointer (some ad) := hV2 rfl
              exact stepAt.pure (v := .int .i64 y) rfl rfl (by simp only [eV2]; go_simp) rfl
            · rintro vs u ⟨hV0, hV1, hV2, hV3, hV4, hV5, hV6, hV7, hV8, hV9, hV10, hV11, hV12, hV13, hV14, hV15, hV16, hV17, hV18, hV19, hV20, -⟩ G
              have eV3 : vs 3 = .int .i64 y := hV3 rfl
              exact stepAt.pure (v := .bool false) rfl rfl (by simp only [eV3]; go_simp <;> omega) rfl
            · rintro vs u ⟨hV0, hV1, hV2, hV3, hV4, hV5, hV6, hV7, hV8, hV9, hV10, hV11, hV12, hV13, hV14, hV15, hV16, hV17, hV18, hV19, hV20, -⟩ G
              have eV4 : vs 4 = .bool false := hV4 rfl
              exact stepAt.pure (v := .bool false) rfl rfl (by simp only [eV4]; go_simp) rfl
            · rintro vs u ⟨hV0, hV1, hV2, hV3, hV4, hV5, hV6, hV7, hV8, hV9, hV10, hV11, hV12, hV13, hV14, hV15, hV16, hV17, hV18, hV19, hV20, -⟩ G
              exact stepAt.pure (v := .int .i64 ((0 : Nat) : Int)) rfl (wanted_by (g := 5) (b := false) (t := 17) rfl (by kernel_rfl) (congrArg some (show vs 5 = _ from hV5 rfl))) (by go_simp) rfl
            · rintro vs u ⟨hV0, hV1, hV2, hV3, hV4, hV5, hV6, hV7, hV8, hV9, hV10, hV11, hV12, hV13, hV14, hV15, hV16, hV17, hV18, hV19, hV20, -⟩ G
              have eV6 : vs 6 = .int .i64 ((0 : Nat) : Int) := hV6 rfl
              exact stepAt.pure (v := .bool false) rfl (wanted_by (g := 5) (b := false) (t := 17) rfl (by kernel_rfl) (congrArg some (show vs 5 = _ from hV5 rfl))) (by simp only [eV6]; go_simp <;> omega) rfl
            · rintro vs u ⟨hV0, hV1, hV2, hV3, hV4, hV5, hV6, hV7, hV8, hV9, hV10, hV11, hV12, hV13, hV14, hV15, hV16, hV17, hV18, hV19, hV20, -⟩ G
              have eV7 : vs 7 = .bool false := hV7 rfl
              exact stepAt.pure (v := .bool false) rfl (wanted_by (g := 5) (b := false) (t := 17) rfl (by kernel_rfl) (congrArg some (show vs 5 = _ from hV5 rfl))) (by simp only [eV7]; go_simp) rfl
            · rintro vs u ⟨hV0, hV1, hV2, hV3, hV4, hV5, hV6, hV7, hV8, hV9, hV10, hV11, hV12, hV13, hV14, hV15, hV16, hV17, hV18, hV19, hV20, -⟩ G
              exact stepAt.unwanted rfl (wanted_not (g := 8) (b := true) (t := 20) rfl (by kernel_rfl) (congrArg some (show vs 8 = _ from hV8 rfl))) rfl
            · rintro vs u ⟨hV0, hV1, hV2, hV3, hV4, hV5, hV6, hV7, hV8, hV9, hV10, hV11, hV12, hV13, hV14, hV15, hV16, hV17, hV18, hV19, hV20, -⟩ G
              exact stepAt.unwanted rfl (wanted_not (g := 8) (b := true) (t := 20) rfl (by kernel_rfl) (congrArg some (show vs 8 = _ from hV8 rfl))) rfl
            · rintro vs u ⟨hV0, hV1, hV2, hV3, hV4, hV5, hV6, hV7, hV8, hV9, hV10, hV11, hV12, hV13, hV14, hV15, hV16, hV17, hV18, hV19, hV20, -⟩ G
              exact stepAt.unwanted rfl (wanted_not (g := 8) (b := true) (t := 20) rfl (by kernel_rfl) (congrArg some (show vs 8 = _ from hV8 rfl))) rfl
            · rintro vs u ⟨hV0, hV1, hV2, hV3, hV4, hV5, hV6, hV7, hV8, hV9, hV10, hV11, hV12, hV13, hV14, hV15, hV16, hV17, hV18, hV19, hV20, -⟩ G
              exact stepAt.unwanted rfl (wanted_not (g := 8) (b := true) (t := 20) rfl (by kernel_rfl) (congrArg some (show vs 8 = _ from hV8 rfl))) rfl
            · rintro vs u ⟨hV0, hV1, hV2, hV3, hV4, hV5, hV6, hV7, hV8, hV9, hV10, hV11, hV12, hV13, hV14, hV15, hV16, hV17, hV18, hV19, hV20, -⟩ G
              exact stepAt.unwanted rfl (wanted_not (g := 8) (b := true) (t := 20) rfl (by kernel_rfl) (congrArg some (show vs 8 = _ from hV8 rfl))) rfl
            · rintro vs u ⟨hV0, hV1, hV2, hV3, hV4, hV5, hV6, hV7, hV8, hV9, hV10, hV11, hV12, hV13, hV14, hV15, hV16, hV17, hV18, hV19, hV20, -⟩ G
              exact stepAt.unwanted rfl (wanted_not (g := 8) (b := true) (t := 20) rfl (by kernel_rfl) (congrArg some (show vs 8 = _ from hV8 rfl))) rfl
            · rintro vs u ⟨hV0, hV1, hV2, hV3, hV4, hV5, hV6, hV7, hV8, hV9, hV10, hV11, hV12, hV13, hV14, hV15, hV16, hV17, hV18, hV19, hV20, -⟩ G
              exact stepAt.unwanted rfl (wanted_not (g := 8) (b := true) (t := 20) rfl (by kernel_rfl) (congrArg some (show vs 8 = _ from hV8 rfl))) rfl
            · rintro vs u ⟨hV0, hV1, hV2, hV3, hV4, hV5, hV6, hV7, hV8, hV9, hV10, hV11, hV12, hV13, hV14, hV15, hV16, hV17, hV18, hV19, hV20, -⟩ G
              exact stepAt.unwanted rfl (wanted_not (g := 8) (b := true) (t := 20) rfl (by kernel_rfl) (congrArg some (show vs 8 = _ from hV8 rfl))) rfl
            · rintro vs u ⟨hV0, hV1, hV2, hV3, hV4, hV5, hV6, hV7, hV8, hV9, hV10, hV11, hV12, hV13, hV14, hV15, hV16, hV17, hV18, hV19, hV20, -⟩ G
              exact stepAt.unwanted rfl (wanted_not (g := 8) (b := true) (t := 20) rfl (by kernel_rfl) (congrArg some (show vs 8 = _ from hV8 rfl))) rfl
            · rintro vs u ⟨hV0, hV1, hV2, hV3, hV4, hV5, hV6, hV7, hV8, hV9, hV10, hV11, hV12, hV13, hV14, hV15, hV16, hV17, hV18, hV19, hV20, -⟩ G
              exact stepAt.unwanted rfl (wanted_not (g := 8) (b := true) (t := 20) rfl (by kernel_rfl) (congrArg some (show vs 8 = _ from hV8 rfl))) rfl
            · rintro vs u ⟨hV0, hV1, hV2, hV3, hV4, hV5, hV6, hV7, hV8, hV9, hV10, hV11, hV12, hV13, hV14, hV15, hV16, hV17, hV18, hV19, hV20, -⟩ G
              have eV8 : vs 8 = .bool false := hV8 rfl
              have eV18 : vs 18 = undef := hV18 rfl
              exact stepAt.pure (v := .bool false) rfl (wanted_by (g := 5) (b := false) (t := 17) rfl (by kernel_rfl) (congrArg some (show vs 5 = _ from hV5 rfl))) (by simp only [eV8, eV18]; go_simp) rfl
            · rintro vs u ⟨hV0, hV1, hV2, hV3, hV4, hV5, hV6, hV7, hV8, hV9, hV10, hV11, hV12, hV13, hV14, hV15, hV16, hV17, hV18, hV19, hV20, -⟩ G
              have eV5 : vs 5 = .bool false := hV5 rfl
              have eV19 : vs 19 = .bool false := hV19 rfl
              exact stepAt.pure (v := .bool false) rfl rfl (by simp only [eV5, eV19]; go_simp) rfl
          case looses =>
            exact trivial
          case cont =>
            rintro vs u ⟨hV0, hV1, hV2, hV3, hV4, hV5, hV6, hV7, hV8, hV9, hV10, hV11, hV12, hV13, hV14, hV15, hV16, hV17, hV18, hV19, hV20, -⟩ G
            have eV0 : vs 0 = .slice (some ad) axes.length c := hV0
            have eV1 : vs 1 = .int .i64 ((0 : Nat) : Int) := hV1
            have eV2 : vs 2 = .pointer (some ad) := hV2
            have eV3 : vs 3 = .int .i64 y := hV3
            have eV4 : vs 4 = .bool false := hV4
            have eV5 : vs 5 = .bool false := hV5
            have eV6 : vs 6 = .int .i64 ((0 : Nat) : Int) := hV6
            have eV7 : vs 7 = .bool false := hV7
            have eV8 : vs 8 = .bool false := hV8
            have eV9 : vs 9 = undef := hV9
            have eV10 : vs 10 = undef := hV10
            have eV11 : vs 11 = undef := hV11
            have eV12 : vs 12 = undef := hV12
            have eV13 : vs 13 = undef := hV13
            have eV14 : vs 14 = undef := hV14
            have eV15 : vs 15 = undef := hV15
            have eV16 : vs 16 = undef := hV16
            have eV17 : vs 17 = undef := hV17
            have eV18 : vs 18 = undef := hV18
            have eV19 : vs 19 = .bool false := hV19
            have eV20 : vs 20 = .bool false := hV20
            simp only [eV0, eV1, eV2, eV3, eV4, eV5, eV6, eV7, eV8, eV9, eV10, eV11, eV12, eV13, eV14, eV15, eV16, eV17, eV18, eV19, eV20]
            clear eV0 eV1 eV2 eV3 eV4 eV5 eV6 eV7 eV8 eV9 eV10 eV11 eV12 eV13 eV14 eV15 eV16 eV17 eV18 eV19 eV20 hV0 hV1 hV2 hV3 hV4 hV5 hV6 hV7 hV8 hV9 hV10 hV11 hV12 hV13 hV14 hV15 hV16 hV17 hV18 hV19 hV20
            refine wpTill.done (by kernel_rfl) ?_
            have FU := FD.trans (G.mono fun k hk _ => hk)
            go_wp2_with fail
            go_roundw
            case rel =>
              refine ⟨1, by omega, by go_num, Lib.hid fun k hk => ?_, FU⟩
              obtain rfl : k = 0 := by omega
              rw [HG.out]
              exact ⟨by omega, fun h => by omega⟩
            case measure => first | (simp [intOf]; done) | (simp [intOf]; omega)
    · obtain rfl : j = axes.length := by omega
      have HRi : Hid (Rise axes) := Lib.hid fun i hi => HK.out i hi
      by_cases h0 : 0 < axes.length
      · obtain ⟨ad, rfl, hx, hx1, hx2⟩ := Kd.int_cell HG0.out (i := axes.length - 1) (by omega)
        have HG := Lib.hid (getI_at (l := axes) (j := axes.length - 1) (by omega))
        have HMem := Lib.hid (List.getElem_mem (l := axes) (n := axes.length - 1) (by omega))
        generalize axes[axes.length - 1] = y at hx hx1 hx2 HG HMem
        have hw : IntKind.i64.wrap ((axes.length : Int) - 1) = ((axes.length - 1 : Nat) : Int) := by rw [IntKind.wrap_i64]; omega
        by_cases h1 : (n : Int) ≤ y
        · have HN : r = 13 := hr.out.symm.trans ((if_pos HRi.out).trans (if_neg fun h => by have := h _ HMem.out; omega))
          go_wp2_with fail
          go_ret
          exact ⟨by first | rfl | (rw [HN]; rfl), F⟩
        · have HN : r = 0 := hr.out.symm.trans ((if_pos HRi.out).trans (if_pos (rise_below HRi.out fun _ => by rw [HG.out]; omega)))
          go_wp2_with fail
          go_ret
          exact ⟨by first | rfl | (rw [HN]; rfl), F⟩
      · have HN : r = 0 := hr.out.symm.trans ((if_pos HRi.out).trans (if_pos (rise_below HRi.out fun h => absurd h h0)))
        go_wp2_with fail
        go_ret
        exact ⟨by first | rfl | (rw [HN]; rfl), F⟩

/-- An element of the document's is written. -/
theorem Own.setQ {e : TypeId} {S : Nat → Prop} {w : World} {g n c K : Nat} {xs : List Rat} (h : Own (Rk K) e S w (.slice (some ⟨g, 0, none⟩) n c) xs) {i : Nat} (hi : i < xs.length) (y : Rat) {vn vd : Value} (h1 : RR (fun k => S k ∧ k ≠ g) w vn vd y K) :
    Own (Rk K) e S (((w.setCell ⟨g, i * 3, none⟩ (.bool (sg y))).setCell ⟨g, i * 3 + 1, none⟩ vn).setCell ⟨g, i * 3 + 2, none⟩ vd) (.slice (some ⟨g, 0, none⟩) n c) (xs.set i y) := by
  obtain ⟨cells, o, hS, hE⟩ := h
  have hF := ((fr_set1 w g (i * 3) (.bool (sg y))).trans (fr_set1 _ g (i * 3 + 1) vn)).trans (fr_set1 _ g (i * 3 + 2) vd)
  have hn : xs.length = n := by
    rcases o.2 with ⟨h', _⟩ | ⟨g', cap', cur, h', _⟩
    · cases h'
    · cases h'; rfl
  subst hn
  have o1 := (((o.stored (i * 3) (.bool (sg y))).1.stored (i * 3 + 1) vn).1.stored (i * 3 + 2) vd).1
  have hcl : cells.length = xs.length * 3 := o.1
  refine ⟨_, by rw [List.length_set]; exact o1, hS, fun k x hx => ?_⟩
  by_cases hk : k = i
  · subst hk
    rw [List.getElem?_set_self hi] at hx
    cases hx
    refine ⟨[.bool (sg y), vn, vd], ⟨vn, vd, rfl, (h1.fr (hF.mono fun k _ hk => hk.2)).mono fun k hk => ⟨hk.1, fun e => hk.2 (by cases e; rfl)⟩⟩, fun j u hj => ?_⟩
    have hj3 : j < 3 := by have := (List.getElem?_eq_some_iff.1 hj).1; simpa using this
    show _ = some u
    rw [show (Rk K).size = 3 from rfl]
    obtain rfl | rfl | rfl : j = 0 ∨ j = 1 ∨ j = 2 := by omega
    · cases hj
      rw [List.getElem?_set_ne (by omega), List.getElem?_set_ne (by omega), Nat.add_zero, List.getElem?_set_self (by omega)]
    · cases hj
      rw [List.getElem?_set_ne (by omega), List.getElem?_set_self (by rw [List.length_set]; omega)]
    · cases hj
      rw [List.getElem?_set_self (by rw [List.length_set, List.length_set]; omega)]
  · rw [List.getElem?_set_ne (fun e => hk e.symm)] at hx
    obtain ⟨cs, hr, hu⟩ := hE k x hx
    refine ⟨cs, (Rk K).fr hr (hF.mono fun k _ hk => fun e => hk.2 (by rw [e]; rfl)), fun j u hj => ?_⟩
    have hj3 : j < 3 := by have := (List.getElem?_eq_some_iff.1 hj).1; rwa [(Rk K).len hr] at this
    have := hu j u hj
    rw [show (Rk K).size = 3 from rfl] at this ⊢
    rw [List.getElem?_set_ne (by omega), List.getElem?_set_ne (by omega), List.getElem?_set_ne (by omega)]
    exact this
theorem pr_drop_dvd {axes : List Int} : ∀ {i : Nat} {l : List Int}, pr (dropI axes i l) ∣ pr l
  | _, [] => Int.dvd_refl _
  | i, x :: l => by
    have ih := pr_drop_dvd (axes := axes) (i := i + 1) (l := l)
    rw [dropI]
    split
    · exact Int.dvd_trans ih (Int.dvd_mul_left _ _)
    · exact Int.mul_dvd_mul (Int.dvd_refl x) ih
theorem fr_nat (a b : Nat) : fr (a : Int) (b : Int) = mkRat (a : Int) b := by
  unfold fr rv
  rw [decide_eq_false (by omega : ¬ (a : Int) < 0), decide_eq_false (by omega : ¬ (b : Int) < 0)]
  rfl
/-- a mean's factor -/
theorem fr_mean {N m : Nat} (hN : 0 < N) : fr (N : Int) ((N * m : Nat) : Int) = fr 1 (m : Int) := by
  rw [fr_nat, show (1 : Int) = ((1 : Nat) : Int) from rfl, fr_nat]
  have := Rat.mkRat_mul_left (n := 1) (d := m) (a := N) (by omega)
  simpa using this
end Go.Proofs.YtlppcfeimpcbjaaGreat
