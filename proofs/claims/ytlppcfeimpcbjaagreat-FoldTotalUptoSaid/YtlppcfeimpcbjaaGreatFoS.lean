import Derived.Test.YtlppcfeimpcbjaaGreatFoldF
set_option linter.unusedSimpArgs false
set_option linter.unusedVariables false

/- fluxionref06.Axes: printed by gen_fos.py. -/
namespace Go.Proofs.YtlppcfeimpcbjaaGreat
open Go.RowKit Go.Shelf
attribute [local go_sem] Oper.semAt_some

def axB (axes : List Int) (n : Nat) : Bool := decide (Rise axes ∧ ∀ x ∈ axes, x < n)
set_option maxHeartbeats 8000000 in
theorem r6axes_t {S : Nat → Prop} (w : World) (v : Value) (axes : List Int) (n : Nat) (b : Bool) (hb : Hid (axB axes n = b)) (h : Sl Im S w v axes) :
    Calls Tryz.prog 23 #[v, .int .i64 (n : Int)] w fun e w' => e = .returned (.bool b) ∧ Fr (fun _ => True) w w' := by
  obtain ⟨A, c, rfl, _, _, hlx⟩ := h.slice
  have H := Lib.hid (h.low Im_pos)
  clear h
  go_enter Tryz.func23, Tryz.ntmps23
  go_wp2_with fail
  go_loopw [5] (fun i wr => ∃ (j : Nat), j ≤ axes.length ∧ i = .int .i64 j ∧ Hid (∀ k, k < j → (0 ≤ axes.getD k 0 ∧ (0 < k → axes.getD (k - 1) 0 < axes.getD k 0)) ∧ axes.getD k 0 < n) ∧ Fr (fun _ => True) w wr) (fun i _ => axes.length - (intOf i).toNat)
  case atStart => exact ⟨0, Nat.zero_le _, rfl, Lib.hid (fun k hk => by omega), Fr.refl _ _⟩
  case round =>
    obtain ⟨j, hj, rfl, HK, F⟩ := hrel
    have HF := Lib.hid (H.out.fr ((F.drew).mono fun _ _ _ => trivial))
    have FD := F.drew
    by_cases hlt : j < axes.length
    · obtain ⟨ad, rfl, hx, hx1, hx2⟩ := Kd.int_cell HF.out (i := j) hlt
      have HG := Lib.hid (getI_at hlt)
      have HMem := Lib.hid (List.getElem_mem hlt)
      have hbad : ∀ (hc : axes[j] < 0 ∨ (n : Int) ≤ axes[j] ∨ (0 < j ∧ axes[j] ≤ axes.getD (j - 1) 0)), b = false := fun hc => by
        rw [← hb.out]
        refine decide_eq_false fun ⟨h1, h2⟩ => ?_
        have h3 := h1 j hlt
        have h4 := h2 _ HMem.out
        rw [HG.out] at h3
        rcases hc with hc | hc | hc
        · omega
        · omega
        · have := h3.2 hc.1; omega
      generalize axes[j] = y at hx hx1 hx2 HG hbad HMem
      by_cases h1 : y < 0
      · have HN := hbad (.inl h1)
        clear hbad hb
        subst HN
        go_wp2_with fail
        refine wpTill.begin (fun _ => True) 28 (by kernel_rfl) ?_
        change wpTill _ _ _ _ _ _ 29 _ _ _
        refine wpTill.free (jj := 28) (m := 0) [(0, Fact.eq (.slice (some ad) axes.length c)),
      (1, Fact.eq (.int .i64 (j : Int))),
      (2, Fact.eq (.pointer (some (ad.add j)))),
      (3, Fact.eq (.int .i64 y)),
      (4, Fact.eq (.bool true)),
      (5, Fact.eq (.bool true)),
      (6, Fact.eq undef),
      (7, Fact.eq undef),
      (8, Fact.eq undef),
      (9, Fact.eq undef),
      (10, Fact.eq undef),
      (11, Fact.eq undef),
      (12, Fact.eq (.bool true)),
      (13, Fact.eq (.bool true)),
      (14, Fact.eq undef),
      (15, Fact.eq undef),
      (16, Fact.eq undef),
      (17, Fact.eq undef),
      (18, Fact.eq undef),
      (19, Fact.eq undef),
      (20, Fact.eq undef),
      (21, Fact.eq undef),
      (22, Fact.eq undef),
      (23, Fact.eq undef),
      (24, Fact.eq undef),
      (25, Fact.eq undef),
      (26, Fact.eq undef),
      (27, Fact.eq undef),
      (28, Fact.eq (.bool true))] [] [0, 0, 3, 7, 15, 31, 63, 63, 255, 511, 63, 2047, 4095, 8191, 16383, 32767, 65535, 131071, 131071, 524287, 1048575, 131071, 131071, 4325375, 14811135, 31588351, 67108863, 134217727, 268435455] [] ?_ (by kernel_rfl) (by kernel_rfl) (by kernel_rfl) [(0, some 12), (1, some 13), (2, some 14), (3, some 15), (4, some 16), (5, some 17), (6, some 18), (7, some 19), (8, some 20), (9, some 21), (10, some 22), (11, some 23), (12, some 24), (13, some 25), (14, some 26), (15, some 27), (16, some 28), (17, some 29), (18, some 30), (19, some 31), (20, some 32), (21, some 33), (22, some 34), (23, some 35), (24, some 36), (25, some 37), (26, some 38), (27, some 39), (28, some 40)] (by kernel_rfl) ?hA ?hQ (fun _ _ => trivial) (by kernel_rfl) ?steps ?looses ?cont
        case hQ => exact fun _ _ _ _ _ h => h
        case hA =>
          intro vs
          simp only [fillD, List.foldl_cons, List.foldl_nil, Act.put, List.setIfInBounds_toArray, List.set_cons_zero, List.set_cons_succ]
          exact rfl
        case steps =>
          refine ⟨?_, ?_, ?_, ?_, ?_, ?_, ?_, ?_, ?_, ?_, ?_, ?_, ?_, ?_, ?_, ?_, ?_, ?_, ?_, ?_, ?_, ?_, ?_, ?_, ?_, ?_, ?_, ?_, ?_, trivial⟩
          · rintro vs u ⟨hV0, hV1, hV2, hV3, hV4, hV5, hV6, hV7, hV8, hV9, hV10, hV11, hV12, hV13, hV14, hV15, hV16, hV17, hV18, hV19, hV20, hV21, hV22, hV23, hV24, hV25, hV26, hV27, hV28, -⟩ G
            exact stepAt.pure (v := .slice (some ad) axes.length c) rfl rfl (by go_simp) rfl
          · rintro vs u ⟨hV0, hV1, hV2, hV3, hV4, hV5, hV6, hV7, hV8, hV9, hV10, hV11, hV12, hV13, hV14, hV15, hV16, hV17, hV18, hV19, hV20, hV21, hV22, hV23, hV24, hV25, hV26, hV27, hV28, -⟩ G
            exact stepAt.pure (v := .int .i64 (j : Int)) rfl rfl (by go_simp) rfl
          · rintro vs u ⟨hV0, hV1, hV2, hV3, hV4, hV5, hV6, hV7, hV8, hV9, hV10, hV11, hV12, hV13, hV14, hV15, hV16, hV17, hV18, hV19, hV20, hV21, hV22, hV23, hV24, hV25, hV26, hV27, hV28, -⟩ G
            have eV0 : vs 0 = .slice (some ad) axes.length c := hV0 rfl
            have eV1 : vs 1 = .int .i64 (j : Int) := hV1 rfl
            exact stepAt.pure (v := .pointer (some (ad.add j))) rfl rfl (by simp only [eV0, eV1]; go_simp <;> omega) rfl
          · rintro vs u ⟨hV0, hV1, hV2, hV3, hV4, hV5, hV6, hV7, hV8, hV9, hV10, hV11, hV12, hV13, hV14, hV15, hV16, hV17, hV18, hV19, hV20, hV21, hV22, hV23, hV24, hV25, hV26, hV27, hV28, -⟩ G
            have o0 := G.cell hx (World.block_lt_of_cell? _ _ hx)
            have eV2 : vs 2 = .pointer (some (ad.add j)) := hV2 rfl
            exact stepAt.pure (v := .int .i64 y) rfl rfl (by simp only [eV2]; go_simp) rfl
          · rintro vs u ⟨hV0, hV1, hV2, hV3, hV4, hV5, hV6, hV7, hV8, hV9, hV10, hV11, hV12, hV13, hV14, hV15, hV16, hV17, hV18, hV19, hV20, hV21, hV22, hV23, hV24, hV25, hV26, hV27, hV28, -⟩ G
            have eV3 : vs 3 = .int .i64 y := hV3 rfl
            exact stepAt.pure (v := .bool true) rfl rfl (by simp only [eV3]; go_simp <;> omega) rfl
          · rintro vs u ⟨hV0, hV1, hV2, hV3, hV4, hV5, hV6, hV7, hV8, hV9, hV10, hV11, hV12, hV13, hV14, hV15, hV16, hV17, hV18, hV19, hV20, hV21, hV22, hV23, hV24, hV25, hV26, hV27, hV28, -⟩ G
            have eV4 : vs 4 = .bool true := hV4 rfl
            exact stepAt.pure (v := .bool true) rfl rfl (by simp only [eV4]; go_simp) rfl
          · rintro vs u ⟨hV0, hV1, hV2, hV3, hV4, hV5, hV6, hV7, hV8, hV9, hV10, hV11, hV12, hV13, hV14, hV15, hV16, hV17, hV18, hV19, hV20, hV21, hV22, hV23, hV24, hV25, hV26, hV27, hV28, -⟩ G
            exact stepAt.unwanted rfl (wanted_not (g := 5) (b := false) (t := 17) rfl (by kernel_rfl) (congrArg some (show vs 5 = _ from hV5 rfl))) rfl
          · rintro vs u ⟨hV0, hV1, hV2, hV3, hV4, hV5, hV6, hV7, hV8, hV9, hV10, hV11, hV12, hV13, hV14, hV15, hV16, hV17, hV18, hV19, hV20, hV21, hV22, hV23, hV24, hV25, hV26, hV27, hV28, -⟩ G
            exact stepAt.unwanted rfl (wanted_not (g := 5) (b := false) (t := 17) rfl (by kernel_rfl) (congrArg some (show vs 5 = _ from hV5 rfl))) rfl
          · rintro vs u ⟨hV0, hV1, hV2, hV3, hV4, hV5, hV6, hV7, hV8, hV9, hV10, hV11, hV12, hV13, hV14, hV15, hV16, hV17, hV18, hV19, hV20, hV21, hV22, hV23, hV24, hV25, hV26, hV27, hV28, -⟩ G
            exact stepAt.unwanted rfl (wanted_not (g := 5) (b := false) (t := 17) rfl (by kernel_rfl) (congrArg some (show vs 5 = _ from hV5 rfl))) rfl
          · rintro vs u ⟨hV0, hV1, hV2, hV3, hV4, hV5, hV6, hV7, hV8, hV9, hV10, hV11, hV12, hV13, hV14, hV15, hV16, hV17, hV18, hV19, hV20, hV21, hV22, hV23, hV24, hV25, hV26, hV27, hV28, -⟩ G
            exact stepAt.unwanted rfl (wanted_not (g := 5) (b := false) (t := 17) rfl (by kernel_rfl) (congrArg some (show vs 5 = _ from hV5 rfl))) rfl
          · rintro vs u ⟨hV0, hV1, hV2, hV3, hV4, hV5, hV6, hV7, hV8, hV9, hV10, hV11, hV12, hV13, hV14, hV15, hV16, hV17, hV18, hV19, hV20, hV21, hV22, hV23, hV24, hV25, hV26, hV27, hV28, -⟩ G
            exact stepAt.unwanted rfl (wanted_not (g := 5) (b := false) (t := 17) rfl (by kernel_rfl) (congrArg some (show vs 5 = _ from hV5 rfl))) rfl
          · rintro vs u ⟨hV0, hV1, hV2, hV3, hV4, hV5, hV6, hV7, hV8, hV9, hV10, hV11, hV12, hV13, hV14, hV15, hV16, hV17, hV18, hV19, hV20, hV21, hV22, hV23, hV24, hV25, hV26, hV27, hV28, -⟩ G
            exact stepAt.unwanted rfl (wanted_not (g := 5) (b := false) (t := 17) rfl (by kernel_rfl) (congrArg some (show vs 5 = _ from hV5 rfl))) rfl
          · rintro vs u ⟨hV0, hV1, hV2, hV3, hV4, hV5, hV6, hV7, hV8, hV9, hV10, hV11, hV12, hV13, hV14, hV15, hV16, hV17, hV18, hV19, hV20, hV21, hV22, hV23, hV24, hV25, hV26, hV27, hV28, -⟩ G
            have eV5 : vs 5 = .bool true := hV5 rfl
            have eV11 : vs 11 = undef := hV11 rfl
            exact stepAt.pure (v := .bool true) rfl rfl (by simp only [eV5, eV11]; go_simp) rfl
          · rintro vs u ⟨hV0, hV1, hV2, hV3, hV4, hV5, hV6, hV7, hV8, hV9, hV10, hV11, hV12, hV13, hV14, hV15, hV16, hV17, hV18, hV19, hV20, hV21, hV22, hV23, hV24, hV25, hV26, hV27, hV28, -⟩ G
            have eV12 : vs 12 = .bool true := hV12 rfl
            exact stepAt.pure (v := .bool true) rfl rfl (by simp only [eV12]; go_simp) rfl
          · rintro vs u ⟨hV0, hV1, hV2, hV3, hV4, hV5, hV6, hV7, hV8, hV9, hV10, hV11, hV12, hV13, hV14, hV15, hV16, hV17, hV18, hV19, hV20, hV21, hV22, hV23, hV24, hV25, hV26, hV27, hV28, -⟩ G
            exact stepAt.unwanted rfl (wanted_not (g := 13) (b := false) (t := 25) rfl (by kernel_rfl) (congrArg some (show vs 13 = _ from hV13 rfl))) rfl
          · rintro vs u ⟨hV0, hV1, hV2, hV3, hV4, hV5, hV6, hV7, hV8, hV9, hV10, hV11, hV12, hV13, hV14, hV15, hV16, hV17, hV18, hV19, hV20, hV21, hV22, hV23, hV24, hV25, hV26, hV27, hV28, -⟩ G
            exact stepAt.unwanted rfl (wanted_not (g := 13) (b := false) (t := 25) rfl (by kernel_rfl) (congrArg some (show vs 13 = _ from hV13 rfl))) rfl
          · rintro vs u ⟨hV0, hV1, hV2, hV3, hV4, hV5, hV6, hV7, hV8, hV9, hV10, hV11, hV12, hV13, hV14, hV15, hV16, hV17, hV18, hV19, hV20, hV21, hV22, hV23, hV24, hV25, hV26, hV27, hV28, -⟩ G
            exact stepAt.unwanted rfl (wanted_not (g := 13) (b := false) (t := 25) rfl (by kernel_rfl) (congrArg some (show vs 13 = _ from hV13 rfl))) rfl
          · rintro vs u ⟨hV0, hV1, hV2, hV3, hV4, hV5, hV6, hV7, hV8, hV9, hV10, hV11, hV12, hV13, hV14, hV15, hV16, hV17, hV18, hV19, hV20, hV21, hV22, hV23, hV24, hV25, hV26, hV27, hV28, -⟩ G
            exact stepAt.unwanted rfl (wanted_undef (g := 16) (b := true) (t := 28) rfl (by kernel_rfl) (congrArg some (show vs 16 = _ from hV16 rfl))) rfl
          · rintro vs u ⟨hV0, hV1, hV2, hV3, hV4, hV5, hV6, hV7, hV8, hV9, hV10, hV11, hV12, hV13, hV14, hV15, hV16, hV17, hV18, hV19, hV20, hV21, hV22, hV23, hV24, hV25, hV26, hV27, hV28, -⟩ G
            exact stepAt.unwanted rfl (wanted_undef (g := 16) (b := true) (t := 28) rfl (by kernel_rfl) (congrArg some (show vs 16 = _ from hV16 rfl))) rfl
          · rintro vs u ⟨hV0, hV1, hV2, hV3, hV4, hV5, hV6, hV7, hV8, hV9, hV10, hV11, hV12, hV13, hV14, hV15, hV16, hV17, hV18, hV19, hV20, hV21, hV22, hV23, hV24, hV25, hV26, hV27, hV28, -⟩ G
            exact stepAt.unwanted rfl (wanted_undef (g := 16) (b := true) (t := 28) rfl (by kernel_rfl) (congrArg some (show vs 16 = _ from hV16 rfl))) rfl
          · rintro vs u ⟨hV0, hV1, hV2, hV3, hV4, hV5, hV6, hV7, hV8, hV9, hV10, hV11, hV12, hV13, hV14, hV15, hV16, hV17, hV18, hV19, hV20, hV21, hV22, hV23, hV24, hV25, hV26, hV27, hV28, -⟩ G
            exact stepAt.unwanted rfl (wanted_undef (g := 16) (b := true) (t := 28) rfl (by kernel_rfl) (congrArg some (show vs 16 = _ from hV16 rfl))) rfl
          · rintro vs u ⟨hV0, hV1, hV2, hV3, hV4, hV5, hV6, hV7, hV8, hV9, hV10, hV11, hV12, hV13, hV14, hV15, hV16, hV17, hV18, hV19, hV20, hV21, hV22, hV23, hV24, hV25, hV26, hV27, hV28, -⟩ G
            exact stepAt.unwanted rfl (wanted_undef (g := 16) (b := true) (t := 28) rfl (by kernel_rfl) (congrArg some (show vs 16 = _ from hV16 rfl))) rfl
          · rintro vs u ⟨hV0, hV1, hV2, hV3, hV4, hV5, hV6, hV7, hV8, hV9, hV10, hV11, hV12, hV13, hV14, hV15, hV16, hV17, hV18, hV19, hV20, hV21, hV22, hV23, hV24, hV25, hV26, hV27, hV28, -⟩ G
            exact stepAt.unwanted rfl (wanted_undef (g := 16) (b := true) (t := 28) rfl (by kernel_rfl) (congrArg some (show vs 16 = _ from hV16 rfl))) rfl
          · rintro vs u ⟨hV0, hV1, hV2, hV3, hV4, hV5, hV6, hV7, hV8, hV9, hV10, hV11, hV12, hV13, hV14, hV15, hV16, hV17, hV18, hV19, hV20, hV21, hV22, hV23, hV24, hV25, hV26, hV27, hV28, -⟩ G
            exact stepAt.unwanted rfl (wanted_undef (g := 16) (b := true) (t := 28) rfl (by kernel_rfl) (congrArg some (show vs 16 = _ from hV16 rfl))) rfl
          · rintro vs u ⟨hV0, hV1, hV2, hV3, hV4, hV5, hV6, hV7, hV8, hV9, hV10, hV11, hV12, hV13, hV14, hV15, hV16, hV17, hV18, hV19, hV20, hV21, hV22, hV23, hV24, hV25, hV26, hV27, hV28, -⟩ G
            exact stepAt.unwanted rfl (wanted_undef (g := 16) (b := true) (t := 28) rfl (by kernel_rfl) (congrArg some (show vs 16 = _ from hV16 rfl))) rfl
          · rintro vs u ⟨hV0, hV1, hV2, hV3, hV4, hV5, hV6, hV7, hV8, hV9, hV10, hV11, hV12, hV13, hV14, hV15, hV16, hV17, hV18, hV19, hV20, hV21, hV22, hV23, hV24, hV25, hV26, hV27, hV28, -⟩ G
            exact stepAt.unwanted rfl (wanted_undef (g := 16) (b := true) (t := 28) rfl (by kernel_rfl) (congrArg some (show vs 16 = _ from hV16 rfl))) rfl
          · rintro vs u ⟨hV0, hV1, hV2, hV3, hV4, hV5, hV6, hV7, hV8, hV9, hV10, hV11, hV12, hV13, hV14, hV15, hV16, hV17, hV18, hV19, hV20, hV21, hV22, hV23, hV24, hV25, hV26, hV27, hV28, -⟩ G
            exact stepAt.unwanted rfl (wanted_undef (g := 16) (b := true) (t := 28) rfl (by kernel_rfl) (congrArg some (show vs 16 = _ from hV16 rfl))) rfl
          · rintro vs u ⟨hV0, hV1, hV2, hV3, hV4, hV5, hV6, hV7, hV8, hV9, hV10, hV11, hV12, hV13, hV14, hV15, hV16, hV17, hV18, hV19, hV20, hV21, hV22, hV23, hV24, hV25, hV26, hV27, hV28, -⟩ G
            exact stepAt.unwanted rfl (wanted_not (g := 13) (b := false) (t := 25) rfl (by kernel_rfl) (congrArg some (show vs 13 = _ from hV13 rfl))) rfl
          · rintro vs u ⟨hV0, hV1, hV2, hV3, hV4, hV5, hV6, hV7, hV8, hV9, hV10, hV11, hV12, hV13, hV14, hV15, hV16, hV17, hV18, hV19, hV20, hV21, hV22, hV23, hV24, hV25, hV26, hV27, hV28, -⟩ G
            have eV13 : vs 13 = .bool true := hV13 rfl
            have eV27 : vs 27 = undef := hV27 rfl
            exact stepAt.pure (v := .bool true) rfl rfl (by simp only [eV13, eV27]; go_simp) rfl
        case looses =>
          exact trivial
        case cont =>
          rintro vs u ⟨hV0, hV1, hV2, hV3, hV4, hV5, hV6, hV7, hV8, hV9, hV10, hV11, hV12, hV13, hV14, hV15, hV16, hV17, hV18, hV19, hV20, hV21, hV22, hV23, hV24, hV25, hV26, hV27, hV28, -⟩ G
          have eV0 : vs 0 = .slice (some ad) axes.length c := hV0
          have eV1 : vs 1 = .int .i64 (j : Int) := hV1
          have eV2 : vs 2 = .pointer (some (ad.add j)) := hV2
          have eV3 : vs 3 = .int .i64 y := hV3
          have eV4 : vs 4 = .bool true := hV4
          have eV5 : vs 5 = .bool true := hV5
          have eV6 : vs 6 = undef := hV6
          have eV7 : vs 7 = undef := hV7
          have eV8 : vs 8 = undef := hV8
          have eV9 : vs 9 = undef := hV9
          have eV10 : vs 10 = undef := hV10
          have eV11 : vs 11 = undef := hV11
          have eV12 : vs 12 = .bool true := hV12
          have eV13 : vs 13 = .bool true := hV13
          have eV14 : vs 14 = undef := hV14
          have eV15 : vs 15 = undef := hV15
          have eV16 : vs 16 = undef := hV16
          have eV17 : vs 17 = undef := hV17
          have eV18 : vs 18 = undef := hV18
          have eV19 : vs 19 = undef := hV19
          have eV20 : vs 20 = undef := hV20
          have eV21 : vs 21 = undef := hV21
          have eV22 : vs 22 = undef := hV22
          have eV23 : vs 23 = undef := hV23
          have eV24 : vs 24 = undef := hV24
          have eV25 : vs 25 = undef := hV25
          have eV26 : vs 26 = undef := hV26
          have eV27 : vs 27 = undef := hV27
          have eV28 : vs 28 = .bool true := hV28
          simp only [eV0, eV1, eV2, eV3, eV4, eV5, eV6, eV7, eV8, eV9, eV10, eV11, eV12, eV13, eV14, eV15, eV16, eV17, eV18, eV19, eV20, eV21, eV22, eV23, eV24, eV25, eV26, eV27, eV28]
          clear eV0 eV1 eV2 eV3 eV4 eV5 eV6 eV7 eV8 eV9 eV10 eV11 eV12 eV13 eV14 eV15 eV16 eV17 eV18 eV19 eV20 eV21 eV22 eV23 eV24 eV25 eV26 eV27 eV28 hV0 hV1 hV2 hV3 hV4 hV5 hV6 hV7 hV8 hV9 hV10 hV11 hV12 hV13 hV14 hV15 hV16 hV17 hV18 hV19 hV20 hV21 hV22 hV23 hV24 hV25 hV26 hV27 hV28
          refine wpTill.done (by kernel_rfl) ?_
          have FU := FD.trans (G.mono fun k hk _ => hk)
          go_wp2_with fail
          go_ret
          exact ⟨rfl, FU⟩
      · by_cases h5 : (n : Int) ≤ y
        · have HN := hbad (.inr (.inl h5))
          clear hbad hb
          subst HN
          go_wp2_with fail
          refine wpTill.begin (fun _ => True) 28 (by kernel_rfl) ?_
          change wpTill _ _ _ _ _ _ 29 _ _ _
          refine wpTill.free (jj := 28) (m := 0) [(0, Fact.eq (.slice (some ad) axes.length c)),
      (1, Fact.eq (.int .i64 (j : Int))),
      (2, Fact.eq (.pointer (some (ad.add j)))),
      (3, Fact.eq (.int .i64 y)),
      (4, Fact.eq (.bool false)),
      (5, Fact.eq (.bool false)),
      (6, Fact.eq (.slice (some ad) axes.length c)),
      (7, Fact.eq (.int .i64 (j : Int))),
      (8, Fact.eq (.pointer (some (ad.add j)))),
      (9, Fact.eq (.int .i64 y)),
      (10, Fact.eq (.int .i64 (n : Int))),
      (11, Fact.eq (.bool true)),
      (12, Fact.eq (.bool true)),
      (13, Fact.eq (.bool true)),
      (14, Fact.eq undef),
      (15, Fact.eq undef),
      (16, Fact.eq undef),
      (17, Fact.eq undef),
      (18, Fact.eq undef),
      (19, Fact.eq undef),
      (20, Fact.eq undef),
      (21, Fact.eq undef),
      (22, Fact.eq undef),
      (23, Fact.eq undef),
      (24, Fact.eq undef),
      (25, Fact.eq undef),
      (26, Fact.eq undef),
      (27, Fact.eq undef),
      (28, Fact.eq (.bool true))] [] [0, 0, 3, 7, 15, 31, 63, 63, 255, 511, 63, 2047, 4095, 8191, 16383, 32767, 65535, 131071, 131071, 524287, 1048575, 131071, 131071, 4325375, 14811135, 31588351, 67108863, 134217727, 268435455] [] ?_ (by kernel_rfl) (by kernel_rfl) (by kernel_rfl) [(0, some 12), (1, some 13), (2, some 14), (3, some 15), (4, some 16), (5, some 17), (6, some 18), (7, some 19), (8, some 20), (9, some 21), (10, some 22), (11, some 23), (12, some 24), (13, some 25), (14, some 26), (15, some 27), (16, some 28), (17, some 29), (18, some 30), (19, some 31), (20, some 32), (21, some 33), (22, some 34), (23, some 35), (24, some 36), (25, some 37), (26, some 38), (27, some 39), (28, some 40)] (by kernel_rfl) ?hA ?hQ (fun _ _ => trivial) (by kernel_rfl) ?steps ?looses ?cont
          case hQ => exact fun _ _ _ _ _ h => h
          case hA =>
            intro vs
            simp only [fillD, List.foldl_cons, List.foldl_nil, Act.put, List.setIfInBounds_toArray, List.set_cons_zero, List.set_cons_succ]
            exact rfl
          case steps =>
            refine ⟨?_, ?_, ?_, ?_, ?_, ?_, ?_, ?_, ?_, ?_, ?_, ?_, ?_, ?_, ?_, ?_, ?_, ?_, ?_, ?_, ?_, ?_, ?_, ?_, ?_, ?_, ?_, ?_, ?_, trivial⟩
            · rintro vs u ⟨hV0, hV1, hV2, hV3, hV4, hV5, hV6, hV7, hV8, hV9, hV10, hV11, hV12, hV13, hV14, hV15, hV16, hV17, hV18, hV19, hV20, hV21, hV22, hV23, hV24, hV25, hV26, hV27, hV28, -⟩ G
              exact stepAt.pure (v := .slice (some ad) axes.length c) rfl rfl (by go_simp) rfl
            · rintro vs u ⟨hV0, hV1, hV2, hV3, hV4, hV5, hV6, hV7, hV8, hV9, hV10, hV11, hV12, hV13, hV14, hV15, hV16, hV17, hV18, hV19, hV20, hV21, hV22, hV23, hV24, hV25, hV26, hV27, hV28, -⟩ G
              exact stepAt.pure (v := .int .i64 (j : Int)) rfl rfl (by go_simp) rfl
            · rintro vs u ⟨hV0, hV1, hV2, hV3, hV4, hV5, hV6, hV7, hV8, hV9, hV10, hV11, hV12, hV13, hV14, hV15, hV16, hV17, hV18, hV19, hV20, hV21, hV22, hV23, hV24, hV25, hV26, hV27, hV28, -⟩ G
              have eV0 : vs 0 = .slice (some ad) axes.length c := hV0 rfl
              have eV1 : vs 1 = .int .i64 (j : Int) := hV1 rfl
              exact stepAt.pure (v := .pointer (some (ad.add j))) rfl rfl (by simp only [eV0, eV1]; go_simp <;> omega) rfl
            · rintro vs u ⟨hV0, hV1, hV2, hV3, hV4, hV5, hV6, hV7, hV8, hV9, hV10, hV11, hV12, hV13, hV14, hV15, hV16, hV17, hV18, hV19, hV20, hV21, hV22, hV23, hV24, hV25, hV26, hV27, hV28, -⟩ G
              have o0 := G.cell hx (World.block_lt_of_cell? _ _ hx)
              have eV2 : vs 2 = .pointer (some (ad.add j)) := hV2 rfl
              exact stepAt.pure (v := .int .i64 y) rfl rfl (by simp only [eV2]; go_simp) rfl
            · rintro vs u ⟨hV0, hV1, hV2, hV3, hV4, hV5, hV6, hV7, hV8, hV9, hV10, hV11, hV12, hV13, hV14, hV15, hV16, hV17, hV18, hV19, hV20, hV21, hV22, hV23, hV24, hV25, hV26, hV27, hV28, -⟩ G
              have eV3 : vs 3 = .int .i64 y := hV3 rfl
              exact stepAt.pure (v := .bool false) rfl rfl (by simp only [eV3]; go_simp <;> omega) rfl
            · rintro vs u ⟨hV0, hV1, hV2, hV3, hV4, hV5, hV6, hV7, hV8, hV9, hV10, hV11, hV12, hV13, hV14, hV15, hV16, hV17, hV18, hV19, hV20, hV21, hV22, hV23, hV24, hV25, hV26, hV27, hV28, -⟩ G
              have eV4 : vs 4 = .bool false := hV4 rfl
              exact stepAt.pure (v := .bool false) rfl rfl (by simp only [eV4]; go_simp) rfl
            · rintro vs u ⟨hV0, hV1, hV2, hV3, hV4, hV5, hV6, hV7, hV8, hV9, hV10, hV11, hV12, hV13, hV14, hV15, hV16, hV17, hV18, hV19, hV20, hV21, hV22, hV23, hV24, hV25, hV26, hV27, hV28, -⟩ G
              exact stepAt.pure (v := .slice (some ad) axes.length c) rfl (wanted_by (g := 5) (b := false) (t := 17) rfl (by kernel_rfl) (congrArg some (show vs 5 = _ from hV5 rfl))) (by go_simp) rfl
            · rintro vs u ⟨hV0, hV1, hV2, hV3, hV4, hV5, hV6, hV7, hV8, hV9, hV10, hV11, hV12, hV13, hV14, hV15, hV16, hV17, hV18, hV19, hV20, hV21, hV22, hV23, hV24, hV25, hV26, hV27, hV28, -⟩ G
              exact stepAt.pure (v := .int .i64 (j : Int)) rfl (wanted_by (g := 5) (b := false) (t := 17) rfl (by kernel_rfl) (congrArg some (show vs 5 = _ from hV5 rfl))) (by go_simp) rfl
            · rintro vs u ⟨hV0, hV1, hV2, hV3, hV4, hV5, hV6, hV7, hV8, hV9, hV10, hV11, hV12, hV13, hV14, hV15, hV16, hV17, hV18, hV19, hV20, hV21, hV22, hV23, hV24, hV25, hV26, hV27, hV28, -⟩ G
              have eV6 : vs 6 = .slice (some ad) axes.length c := hV6 rfl
              have eV7 : vs 7 = .int .i64 (j : Int) := hV7 rfl
              exact stepAt.pure (v := .pointer (some (ad.add j))) rfl (wanted_by (g := 5) (b := false) (t := 17) rfl (by kernel_rfl) (congrArg some (show vs 5 = _ from hV5 rfl))) (by simp only [eV6, eV7]; go_simp <;> omega) rfl
            · rintro vs u ⟨hV0, hV1, hV2, hV3, hV4, hV5, hV6, hV7, hV8, hV9, hV10, hV11, hV12, hV13, hV14, hV15, hV16, hV17, hV18, hV19, hV20, hV21, hV22, hV23, hV24, hV25, hV26, hV27, hV28, -⟩ G
              have o0 := G.cell hx (World.block_lt_of_cell? _ _ hx)
              have eV8 : vs 8 = .pointer (some (ad.add j)) := hV8 rfl
              exact stepAt.pure (v := .int .i64 y) rfl (wanted_by (g := 5) (b := false) (t := 17) rfl (by kernel_rfl) (congrArg some (show vs 5 = _ from hV5 rfl))) (by simp only [eV8]; go_simp) rfl
            · rintro vs u ⟨hV0, hV1, hV2, hV3, hV4, hV5, hV6, hV7, hV8, hV9, hV10, hV11, hV12, hV13, hV14, hV15, hV16, hV17, hV18, hV19, hV20, hV21, hV22, hV23, hV24, hV25, hV26, hV27, hV28, -⟩ G
              exact stepAt.pure (v := .int .i64 (n : Int)) rfl (wanted_by (g := 5) (b := false) (t := 17) rfl (by kernel_rfl) (congrArg some (show vs 5 = _ from hV5 rfl))) (by go_simp) rfl
            · rintro vs u ⟨hV0, hV1, hV2, hV3, hV4, hV5, hV6, hV7, hV8, hV9, hV10, hV11, hV12, hV13, hV14, hV15, hV16, hV17, hV18, hV19, hV20, hV21, hV22, hV23, hV24, hV25, hV26, hV27, hV28, -⟩ G
              have eV9 : vs 9 = .int .i64 y := hV9 rfl
              have eV10 : vs 10 = .int .i64 (n : Int) := hV10 rfl
              exact stepAt.pure (v := .bool true) rfl (wanted_by (g := 5) (b := false) (t := 17) rfl (by kernel_rfl) (congrArg some (show vs 5 = _ from hV5 rfl))) (by simp only [eV9, eV10]; go_simp <;> omega) rfl
            · rintro vs u ⟨hV0, hV1, hV2, hV3, hV4, hV5, hV6, hV7, hV8, hV9, hV10, hV11, hV12, hV13, hV14, hV15, hV16, hV17, hV18, hV19, hV20, hV21, hV22, hV23, hV24, hV25, hV26, hV27, hV28, -⟩ G
              have eV5 : vs 5 = .bool false := hV5 rfl
              have eV11 : vs 11 = .bool true := hV11 rfl
              exact stepAt.pure (v := .bool true) rfl rfl (by simp only [eV5, eV11]; go_simp) rfl
            · rintro vs u ⟨hV0, hV1, hV2, hV3, hV4, hV5, hV6, hV7, hV8, hV9, hV10, hV11, hV12, hV13, hV14, hV15, hV16, hV17, hV18, hV19, hV20, hV21, hV22, hV23, hV24, hV25, hV26, hV27, hV28, -⟩ G
              have eV12 : vs 12 = .bool true := hV12 rfl
              exact stepAt.pure (v := .bool true) rfl rfl (by simp only [eV12]; go_simp) rfl
            · rintro vs u ⟨hV0, hV1, hV2, hV3, hV4, hV5, hV6, hV7, hV8, hV9, hV10, hV11, hV12, hV13, hV14, hV15, hV16, hV17, hV18, hV19, hV20, hV21, hV22, hV23, hV24, hV25, hV26, hV27, hV28, -⟩ G
              exact stepAt.unwanted rfl (wanted_not (g := 13) (b := false) (t := 25) rfl (by kernel_rfl) (congrArg some (show vs 13 = _ from hV13 rfl))) rfl
            · rintro vs u ⟨hV0, hV1, hV2, hV3, hV4, hV5, hV6, hV7, hV8, hV9, hV10, hV11, hV12, hV13, hV14, hV15, hV16, hV17, hV18, hV19, hV20, hV21, hV22, hV23, hV24, hV25, hV26, hV27, hV28, -⟩ G
              exact stepAt.unwanted rfl (wanted_not (g := 13) (b := false) (t := 25) rfl (by kernel_rfl) (congrArg some (show vs 13 = _ from hV13 rfl))) rfl
            · rintro vs u ⟨hV0, hV1, hV2, hV3, hV4, hV5, hV6, hV7, hV8, hV9, hV10, hV11, hV12, hV13, hV14, hV15, hV16, hV17, hV18, hV19, hV20, hV21, hV22, hV23, hV24, hV25, hV26, hV27, hV28, -⟩ G
              exact stepAt.unwanted rfl (wanted_not (g := 13) (b := false) (t := 25) rfl (by kernel_rfl) (congrArg some (show vs 13 = _ from hV13 rfl))) rfl
            · rintro vs u ⟨hV0, hV1, hV2, hV3, hV4, hV5, hV6, hV7, hV8, hV9, hV10, hV11, hV12, hV13, hV14, hV15, hV16, hV17, hV18, hV19, hV20, hV21, hV22, hV23, hV24, hV25, hV26, hV27, hV28, -⟩ G
              exact stepAt.unwanted rfl (wanted_undef (g := 16) (b := true) (t := 28) rfl (by kernel_rfl) (congrArg some (show vs 16 = _ from hV16 rfl))) rfl
            · rintro vs u ⟨hV0, hV1, hV2, hV3, hV4, hV5, hV6, hV7, hV8, hV9, hV10, hV11, hV12, hV13, hV14, hV15, hV16, hV17, hV18, hV19, hV20, hV21, hV22, hV23, hV24, hV25, hV26, hV27, hV28, -⟩ G
              exact stepAt.unwanted rfl (wanted_undef (g := 16) (b := true) (t := 28) rfl (by kernel_rfl) (congrArg some (show vs 16 = _ from hV16 rfl))) rfl
            · rintro vs u ⟨hV0, hV1, hV2, hV3, hV4, hV5, hV6, hV7, hV8, hV9, hV10, hV11, hV12, hV13, hV14, hV15, hV16, hV17, hV18, hV19, hV20, hV21, hV22, hV23, hV24, hV25, hV26, hV27, hV28, -⟩ G
              exact stepAt.unwanted rfl (wanted_undef (g := 16) (b := true) (t := 28) rfl (by kernel_rfl) (congrArg some (show vs 16 = _ from hV16 rfl))) rfl
            · rintro vs u ⟨hV0, hV1, hV2, hV3, hV4, hV5, hV6, hV7, hV8, hV9, hV10, hV11, hV12, hV13, hV14, hV15, hV16, hV17, hV18, hV19, hV20, hV21, hV22, hV23, hV24, hV25, hV26, hV27, hV28, -⟩ G
              exact stepAt.unwanted rfl (wanted_undef (g := 16) (b := true) (t := 28) rfl (by kernel_rfl) (congrArg some (show vs 16 = _ from hV16 rfl))) rfl
            · rintro vs u ⟨hV0, hV1, hV2, hV3, hV4, hV5, hV6, hV7, hV8, hV9, hV10, hV11, hV12, hV13, hV14, hV15, hV16, hV17, hV18, hV19, hV20, hV21, hV22, hV23, hV24, hV25, hV26, hV27, hV28, -⟩ G
              exact stepAt.unwanted rfl (wanted_undef (g := 16) (b := true) (t := 28) rfl (by kernel_rfl) (congrArg some (show vs 16 = _ from hV16 rfl))) rfl
            · rintro vs u ⟨hV0, hV1, hV2, hV3, hV4, hV5, hV6, hV7, hV8, hV9, hV10, hV11, hV12, hV13, hV14, hV15, hV16, hV17, hV18, hV19, hV20, hV21, hV22, hV23, hV24, hV25, hV26, hV27, hV28, -⟩ G
              exact stepAt.unwanted rfl (wanted_undef (g := 16) (b := true) (t := 28) rfl (by kernel_rfl) (congrArg some (show vs 16 = _ from hV16 rfl))) rfl
            · rintro vs u ⟨hV0, hV1, hV2, hV3, hV4, hV5, hV6, hV7, hV8, hV9, hV10, hV11, hV12, hV13, hV14, hV15, hV16, hV17, hV18, hV19, hV20, hV21, hV22, hV23, hV24, hV25, hV26, hV27, hV28, -⟩ G
              exact stepAt.unwanted rfl (wanted_undef (g := 16) (b := true) (t := 28) rfl (by kernel_rfl) (congrArg some (show vs 16 = _ from hV16 rfl))) rfl
            · rintro vs u ⟨hV0, hV1, hV2, hV3, hV4, hV5, hV6, hV7, hV8, hV9, hV10, hV11, hV12, hV13, hV14, hV15, hV16, hV17, hV18, hV19, hV20, hV21, hV22, hV23, hV24, hV25, hV26, hV27, hV28, -⟩ G
              exact stepAt.unwanted rfl (wanted_undef (g := 16) (b := true) (t := 28) rfl (by kernel_rfl) (congrArg some (show vs 16 = _ from hV16 rfl))) rfl
            · rintro vs u ⟨hV0, hV1, hV2, hV3, hV4, hV5, hV6, hV7, hV8, hV9, hV10, hV11, hV12, hV13, hV14, hV15, hV16, hV17, hV18, hV19, hV20, hV21, hV22, hV23, hV24, hV25, hV26, hV27, hV28, -⟩ G
              exact stepAt.unwanted rfl (wanted_undef (g := 16) (b := true) (t := 28) rfl (by kernel_rfl) (congrArg some (show vs 16 = _ from hV16 rfl))) rfl
            · rintro vs u ⟨hV0, hV1, hV2, hV3, hV4, hV5, hV6, hV7, hV8, hV9, hV10, hV11, hV12, hV13, hV14, hV15, hV16, hV17, hV18, hV19, hV20, hV21, hV22, hV23, hV24, hV25, hV26, hV27, hV28, -⟩ G
              exact stepAt.unwanted rfl (wanted_undef (g := 16) (b := true) (t := 28) rfl (by kernel_rfl) (congrArg some (show vs 16 = _ from hV16 rfl))) rfl
            · rintro vs u ⟨hV0, hV1, hV2, hV3, hV4, hV5, hV6, hV7, hV8, hV9, hV10, hV11, hV12, hV13, hV14, hV15, hV16, hV17, hV18, hV19, hV20, hV21, hV22, hV23, hV24, hV25, hV26, hV27, hV28, -⟩ G
              exact stepAt.unwanted rfl (wanted_not (g := 13) (b := false) (t := 25) rfl (by kernel_rfl) (congrArg some (show vs 13 = _ from hV13 rfl))) rfl
            · rintro vs u ⟨hV0, hV1, hV2, hV3, hV4, hV5, hV6, hV7, hV8, hV9, hV10, hV11, hV12, hV13, hV14, hV15, hV16, hV17, hV18, hV19, hV20, hV21, hV22, hV23, hV24, hV25, hV26, hV27, hV28, -⟩ G
              have eV13 : vs 13 = .bool true := hV13 rfl
              have eV27 : vs 27 = undef := hV27 rfl
              exact stepAt.pure (v := .bool true) rfl rfl (by simp only [eV13, eV27]; go_simp) rfl
          case looses =>
            exact trivial
          case cont =>
            rintro vs u ⟨hV0, hV1, hV2, hV3, hV4, hV5, hV6, hV7, hV8, hV9, hV10, hV11, hV12, hV13, hV14, hV15, hV16, hV17, hV18, hV19, hV20, hV21, hV22, hV23, hV24, hV25, hV26, hV27, hV28, -⟩ G
            have eV0 : vs 0 = .slice (some ad) axes.length c := hV0
            have eV1 : vs 1 = .int .i64 (j : Int) := hV1
            have eV2 : vs 2 = .pointer (some (ad.add j)) := hV2
            have eV3 : vs 3 = .int .i64 y := hV3
            have eV4 : vs 4 = .bool false := hV4
            have eV5 : vs 5 = .bool false := hV5
            have eV6 : vs 6 = .slice (some ad) axes.length c := hV6
            have eV7 : vs 7 = .int .i64 (j : Int) := hV7
            have eV8 : vs 8 = .pointer (some (ad.add j)) := hV8
            have eV9 : vs 9 = .int .i64 y := hV9
            have eV10 : vs 10 = .int .i64 (n : Int) := hV10
            have eV11 : vs 11 = .bool true := hV11
            have eV12 : vs 12 = .bool true := hV12
            have eV13 : vs 13 = .bool true := hV13
            have eV14 : vs 14 = undef := hV14
            have eV15 : vs 15 = undef := hV15
            have eV16 : vs 16 = undef := hV16
            have eV17 : vs 17 = undef := hV17
            have eV18 : vs 18 = undef := hV18
            have eV19 : vs 19 = undef := hV19
            have eV20 : vs 20 = undef := hV20
            have eV21 : vs 21 = undef := hV21
            have eV22 : vs 22 = undef := hV22
            have eV23 : vs 23 = undef := hV23
            have eV24 : vs 24 = undef := hV24
            have eV25 : vs 25 = undef := hV25
            have eV26 : vs 26 = undef := hV26
            have eV27 : vs 27 = undef := hV27
            have eV28 : vs 28 = .bool true := hV28
            simp only [eV0, eV1, eV2, eV3, eV4, eV5, eV6, eV7, eV8, eV9, eV10, eV11, eV12, eV13, eV14, eV15, eV16, eV17, eV18, eV19, eV20, eV21, eV22, eV23, eV24, eV25, eV26, eV27, eV28]
            clear eV0 eV1 eV2 eV3 eV4 eV5 eV6 eV7 eV8 eV9 eV10 eV11 eV12 eV13 eV14 eV15 eV16 eV17 eV18 eV19 eV20 eV21 eV22 eV23 eV24 eV25 eV26 eV27 eV28 hV0 hV1 hV2 hV3 hV4 hV5 hV6 hV7 hV8 hV9 hV10 hV11 hV12 hV13 hV14 hV15 hV16 hV17 hV18 hV19 hV20 hV21 hV22 hV23 hV24 hV25 hV26 hV27 hV28
            refine wpTill.done (by kernel_rfl) ?_
            have FU := FD.trans (G.mono fun k hk _ => hk)
            go_wp2_with fail
            go_ret
            exact ⟨rfl, FU⟩
        by_cases h2 : 0 < j
        · obtain ⟨ad', hA', hz, hz1, hz2⟩ := Kd.int_cell HF.out (i := j - 1) (by omega)
          cases hA'
          have HG' := Lib.hid (getI_at (l := axes) (j := j - 1) (by omega))
          rw [HG'.out] at hbad
          generalize axes[j - 1] = z at hz hz1 hz2 HG' hbad
          have hw : IntKind.i64.wrap ((j : Int) - 1) = ((j - 1 : Nat) : Int) := by rw [IntKind.wrap_i64]; omega
          by_cases h3 : y ≤ z
          · have HN := hbad (.inr (.inr ⟨h2, h3⟩))
            clear hbad hb
            subst HN
            go_wp2_with fail
            refine wpTill.begin (fun _ => True) 28 (by kernel_rfl) ?_
            change wpTill _ _ _ _ _ _ 29 _ _ _
            refine wpTill.free (jj := 28) (m := 0) [(0, Fact.eq (.slice (some ad) axes.length c)),
      (1, Fact.eq (.int .i64 (j : Int))),
      (2, Fact.eq (.pointer (some (ad.add j)))),
      (3, Fact.eq (.int .i64 y)),
      (4, Fact.eq (.bool false)),
      (5, Fact.eq (.bool false)),
      (6, Fact.eq (.slice (some ad) axes.length c)),
      (7, Fact.eq (.int .i64 (j : Int))),
      (8, Fact.eq (.pointer (some (ad.add j)))),
      (9, Fact.eq (.int .i64 y)),
      (10, Fact.eq (.int .i64 (n : Int))),
      (11, Fact.eq (.bool false)),
      (12, Fact.eq (.bool false)),
      (13, Fact.eq (.bool false)),
      (14, Fact.eq (.int .i64 (j : Int))),
      (15, Fact.eq (.bool true)),
      (16, Fact.eq (.bool true)),
      (17, Fact.eq (.slice (some ad) axes.length c)),
      (18, Fact.eq (.int .i64 (j : Int))),
      (19, Fact.eq (.pointer (some (ad.add j)))),
      (20, Fact.eq (.int .i64 y)),
      (21, Fact.eq (.slice (some ad) axes.length c)),
      (22, Fact.eq (.int .i64 (j : Int))),
      (23, Fact.eq (.int .i64 ((j - 1 : Nat) : Int))),
      (24, Fact.eq (.pointer (some (ad.add (j - 1))))),
      (25, Fact.eq (.int .i64 z)),
      (26, Fact.eq (.bool true)),
      (27, Fact.eq (.bool true)),
      (28, Fact.eq (.bool true))] [] [0, 0, 3, 7, 15, 31, 63, 63, 255, 511, 63, 2047, 4095, 8191, 16383, 32767, 65535, 131071, 131071, 524287, 1048575, 131071, 131071, 4325375, 14811135, 31588351, 67108863, 134217727, 268435455] [] ?_ (by kernel_rfl) (by kernel_rfl) (by kernel_rfl) [(0, some 12), (1, some 13), (2, some 14), (3, some 15), (4, some 16), (5, some 17), (6, some 18), (7, some 19), (8, some 20), (9, some 21), (10, some 22), (11, some 23), (12, some 24), (13, some 25), (14, some 26), (15, some 27), (16, some 28), (17, some 29), (18, some 30), (19, some 31), (20, some 32), (21, some 33), (22, some 34), (23, some 35), (24, some 36), (25, some 37), (26, some 38), (27, some 39), (28, some 40)] (by kernel_rfl) ?hA ?hQ (fun _ _ => trivial) (by kernel_rfl) ?steps ?looses ?cont
            case hQ => exact fun _ _ _ _ _ h => h
            case hA =>
              intro vs
              simp only [fillD, List.foldl_cons, List.foldl_nil, Act.put, List.setIfInBounds_toArray, List.set_cons_zero, List.set_cons_succ]
              exact rfl
            case steps =>
              refine ⟨?_, ?_, ?_, ?_, ?_, ?_, ?_, ?_, ?_, ?_, ?_, ?_, ?_, ?_, ?_, ?_, ?_, ?_, ?_, ?_, ?_, ?_, ?_, ?_, ?_, ?_, ?_, ?_, ?_, trivial⟩
              · rintro vs u ⟨hV0, hV1, hV2, hV3, hV4, hV5, hV6, hV7, hV8, hV9, hV10, hV11, hV12, hV13, hV14, hV15, hV16, hV17, hV18, hV19, hV20, hV21, hV22, hV23, hV24, hV25, hV26, hV27, hV28, -⟩ G
                exact stepAt.pure (v := .slice (some ad) axes.length c) rfl rfl (by go_simp) rfl
              · rintro vs u ⟨hV0, hV1, hV2, hV3, hV4, hV5, hV6, hV7, hV8, hV9, hV10, hV11, hV12, hV13, hV14, hV15, hV16, hV17, hV18, hV19, hV20, hV21, hV22, hV23, hV24, hV25, hV26, hV27, hV28, -⟩ G
                exact stepAt.pure (v := .int .i64 (j : Int)) rfl rfl (by go_simp) rfl
              · rintro vs u ⟨hV0, hV1, hV2, hV3, hV4, hV5, hV6, hV7, hV8, hV9, hV10, hV11, hV12, hV13, hV14, hV15, hV16, hV17, hV18, hV19, hV20, hV21, hV22, hV23, hV24, hV25, hV26, hV27, hV28, -⟩ G
                have eV0 : vs 0 = .slice (some ad) axes.length c := hV0 rfl
                have eV1 : vs 1 = .int .i64 (j : Int) := hV1 rfl
                exact stepAt.pure (v := .pointer (some (ad.add j))) rfl rfl (by simp only [eV0, eV1]; go_simp <;> omega) rfl
              · rintro vs u ⟨hV0, hV1, hV2, hV3, hV4, hV5, hV6, hV7, hV8, hV9, hV10, hV11, hV12, hV13, hV14, hV15, hV16, hV17, hV18, hV19, hV20, hV21, hV22, hV23, hV24, hV25, hV26, hV27, hV28, -⟩ G
                have o0 := G.cell hx (World.block_lt_of_cell? _ _ hx)
                have eV2 : vs 2 = .pointer (some (ad.add j)) := hV2 rfl
                exact stepAt.pure (v := .int .i64 y) rfl rfl (by simp only [eV2]; go_simp) rfl
              · rintro vs u ⟨hV0, hV1, hV2, hV3, hV4, hV5, hV6, hV7, hV8, hV9, hV10, hV11, hV12, hV13, hV14, hV15, hV16, hV17, hV18, hV19, hV20, hV21, hV22, hV23, hV24, hV25, hV26, hV27, hV28, -⟩ G
                have eV3 : vs 3 = .int .i64 y := hV3 rfl
                exact stepAt.pure (v := .bool false) rfl rfl (by simp only [eV3]; go_simp <;> omega) rfl
              · rintro vs u ⟨hV0, hV1, hV2, hV3, hV4, hV5, hV6, hV7, hV8, hV9, hV10, hV11, hV12, hV13, hV14, hV15, hV16, hV17, hV18, hV19, hV20, hV21, hV22, hV23, hV24, hV25, hV26, hV27, hV28, -⟩ G
                have eV4 : vs 4 = .bool false := hV4 rfl
                exact stepAt.pure (v := .bool false) rfl rfl (by simp only [eV4]; go_simp) rfl
              · rintro vs u ⟨hV0, hV1, hV2, hV3, hV4, hV5, hV6, hV7, hV8, hV9, hV10, hV11, hV12, hV13, hV14, hV15, hV16, hV17, hV18, hV19, hV20, hV21, hV22, hV23, hV24, hV25, hV26, hV27, hV28, -⟩ G
                exact stepAt.pure (v := .slice (some ad) axes.length c) rfl (wanted_by (g := 5) (b := false) (t := 17) rfl (by kernel_rfl) (congrArg some (show vs 5 = _ from hV5 rfl))) (by go_simp) rfl
              · rintro vs u ⟨hV0, hV1, hV2, hV3, hV4, hV5, hV6, hV7, hV8, hV9, hV10, hV11, hV12, hV13, hV14, hV15, hV16, hV17, hV18, hV19, hV20, hV21, hV22, hV23, hV24, hV25, hV26, hV27, hV28, -⟩ G
                exact stepAt.pure (v := .int .i64 (j : Int)) rfl (wanted_by (g := 5) (b := false) (t := 17) rfl (by kernel_rfl) (congrArg some (show vs 5 = _ from hV5 rfl))) (by go_simp) rfl
              · rintro vs u ⟨hV0, hV1, hV2, hV3, hV4, hV5, hV6, hV7, hV8, hV9, hV10, hV11, hV12, hV13, hV14, hV15, hV16, hV17, hV18, hV19, hV20, hV21, hV22, hV23, hV24, hV25, hV26, hV27, hV28, -⟩ G
                have eV6 : vs 6 = .slice (some ad) axes.length c := hV6 rfl
                have eV7 : vs 7 = .int .i64 (j : Int) := hV7 rfl
                exact stepAt.pure (v := .pointer (some (ad.add j))) rfl (wanted_by (g := 5) (b := false) (t := 17) rfl (by kernel_rfl) (congrArg some (show vs 5 = _ from hV5 rfl))) (by simp only [eV6, eV7]; go_simp <;> omega) rfl
              · rintro vs u ⟨hV0, hV1, hV2, hV3, hV4, hV5, hV6, hV7, hV8, hV9, hV10, hV11, hV12, hV13, hV14, hV15, hV16, hV17, hV18, hV19, hV20, hV21, hV22, hV23, hV24, hV25, hV26, hV27, hV28, -⟩ G
                have o0 := G.cell hx (World.block_lt_of_cell? _ _ hx)
                have eV8 : vs 8 = .pointer (some (ad.add j)) := hV8 rfl
                exact stepAt.pure (v := .int .i64 y) rfl (wanted_by (g := 5) (b := false) (t := 17) rfl (by kernel_rfl) (congrArg some (show vs 5 = _ from hV5 rfl))) (by simp only [eV8]; go_simp) rfl
              · rintro vs u ⟨hV0, hV1, hV2, hV3, hV4, hV5, hV6, hV7, hV8, hV9, hV10, hV11, hV12, hV13, hV14, hV15, hV16, hV17, hV18, hV19, hV20, hV21, hV22, hV23, hV24, hV25, hV26, hV27, hV28, -⟩ G
                exact stepAt.pure (v := .int .i64 (n : Int)) rfl (wanted_by (g := 5) (b := false) (t := 17) rfl (by kernel_rfl) (congrArg some (show vs 5 = _ from hV5 rfl))) (by go_simp) rfl
              · rintro vs u ⟨hV0, hV1, hV2, hV3, hV4, hV5, hV6, hV7, hV8, hV9, hV10, hV11, hV12, hV13, hV14, hV15, hV16, hV17, hV18, hV19, hV20, hV21, hV22, hV23, hV24, hV25, hV26, hV27, hV28, -⟩ G
                have eV9 : vs 9 = .int .i64 y := hV9 rfl
                have eV10 : vs 10 = .int .i64 (n : Int) := hV10 rfl
                exact stepAt.pure (v := .bool false) rfl (wanted_by (g := 5) (b := false) (t := 17) rfl (by kernel_rfl) (congrArg some (show vs 5 = _ from hV5 rfl))) (by simp only [eV9, eV10]; go_simp <;> omega) rfl
              · rintro vs u ⟨hV0, hV1, hV2, hV3, hV4, hV5, hV6, hV7, hV8, hV9, hV10, hV11, hV12, hV13, hV14, hV15, hV16, hV17, hV18, hV19, hV20, hV21, hV22, hV23, hV24, hV25, hV26, hV27, hV28, -⟩ G
                have eV5 : vs 5 = .bool false := hV5 rfl
                have eV11 : vs 11 = .bool false := hV11 rfl
                exact stepAt.pure (v := .bool false) rfl rfl (by simp only [eV5, eV11]; go_simp) rfl
              · rintro vs u ⟨hV0, hV1, hV2, hV3, hV4, hV5, hV6, hV7, hV8, hV9, hV10, hV11, hV12, hV13, hV14, hV15, hV16, hV17, hV18, hV19, hV20, hV21, hV22, hV23, hV24, hV25, hV26, hV27, hV28, -⟩ G
                have eV12 : vs 12 = .bool false := hV12 rfl
                exact stepAt.pure (v := .bool false) rfl rfl (by simp only [eV12]; go_simp) rfl
              · rintro vs u ⟨hV0, hV1, hV2, hV3, hV4, hV5, hV6, hV7, hV8, hV9, hV10, hV11, hV12, hV13, hV14, hV15, hV16, hV17, hV18, hV19, hV20, hV21, hV22, hV23, hV24, hV25, hV26, hV27, hV28, -⟩ G
                exact stepAt.pure (v := .int .i64 (j : Int)) rfl (wanted_by (g := 13) (b := false) (t := 25) rfl (by kernel_rfl) (congrArg some (show vs 13 = _ from hV13 rfl))) (by go_simp) rfl
              · rintro vs u ⟨hV0, hV1, hV2, hV3, hV4, hV5, hV6, hV7, hV8, hV9, hV10, hV11, hV12, hV13, hV14, hV15, hV16, hV17, hV18, hV19, hV20, hV21, hV22, hV23, hV24, hV25, hV26, hV27, hV28, -⟩ G
                have eV14 : vs 14 = .int .i64 (j : Int) := hV14 rfl
                exact stepAt.pure (v := .bool true) rfl (wanted_by (g := 13) (b := false) (t := 25) rfl (by kernel_rfl) (congrArg some (show vs 13 = _ from hV13 rfl))) (by simp only [eV14]; go_simp <;> omega) rfl
              · rintro vs u ⟨hV0, hV1, hV2, hV3, hV4, hV5, hV6, hV7, hV8, hV9, hV10, hV11, hV12, hV13, hV14, hV15, hV16, hV17, hV18, hV19, hV20, hV21, hV22, hV23, hV24, hV25, hV26, hV27, hV28, -⟩ G
                have eV15 : vs 15 = .bool true := hV15 rfl
                exact stepAt.pure (v := .bool true) rfl (wanted_by (g := 13) (b := false) (t := 25) rfl (by kernel_rfl) (congrArg some (show vs 13 = _ from hV13 rfl))) (by simp only [eV15]; go_simp) rfl
              · rintro vs u ⟨hV0, hV1, hV2, hV3, hV4, hV5, hV6, hV7, hV8, hV9, hV10, hV11, hV12, hV13, hV14, hV15, hV16, hV17, hV18, hV19, hV20, hV21, hV22, hV23, hV24, hV25, hV26, hV27, hV28, -⟩ G
                exact stepAt.pure (v := .slice (some ad) axes.length c) rfl (wanted_by (g := 16) (b := true) (t := 28) rfl (by kernel_rfl) (congrArg some (show vs 16 = _ from hV16 rfl))) (by go_simp) rfl
              · rintro vs u ⟨hV0, hV1, hV2, hV3, hV4, hV5, hV6, hV7, hV8, hV9, hV10, hV11, hV12, hV13, hV14, hV15, hV16, hV17, hV18, hV19, hV20, hV21, hV22, hV23, hV24, hV25, hV26, hV27, hV28, -⟩ G
                exact stepAt.pure (v := .int .i64 (j : Int)) rfl (wanted_by (g := 16) (b := true) (t := 28) rfl (by kernel_rfl) (congrArg some (show vs 16 = _ from hV16 rfl))) (by go_simp) rfl
              · rintro vs u ⟨hV0, hV1, hV2, hV3, hV4, hV5, hV6, hV7, hV8, hV9, hV10, hV11, hV12, hV13, hV14, hV15, hV16, hV17, hV18, hV19, hV20, hV21, hV22, hV23, hV24, hV25, hV26, hV27, hV28, -⟩ G
                have eV17 : vs 17 = .slice (some ad) axes.length c := hV17 rfl
                have eV18 : vs 18 = .int .i64 (j : Int) := hV18 rfl
                exact stepAt.pure (v := .pointer (some (ad.add j))) rfl (wanted_by (g := 16) (b := true) (t := 28) rfl (by kernel_rfl) (congrArg some (show vs 16 = _ from hV16 rfl))) (by simp only [eV17, eV18]; go_simp <;> omega) rfl
              · rintro vs u ⟨hV0, hV1, hV2, hV3, hV4, hV5, hV6, hV7, hV8, hV9, hV10, hV11, hV12, hV13, hV14, hV15, hV16, hV17, hV18, hV19, hV20, hV21, hV22, hV23, hV24, hV25, hV26, hV27, hV28, -⟩ G
                have o0 := G.cell hx (World.block_lt_of_cell? _ _ hx)
                have eV19 : vs 19 = .pointer (some (ad.add j)) := hV19 rfl
                exact stepAt.pure (v := .int .i64 y) rfl (wanted_by (g := 16) (b := true) (t := 28) rfl (by kernel_rfl) (congrArg some (show vs 16 = _ from hV16 rfl))) (by simp only [eV19]; go_simp) rfl
              · rintro vs u ⟨hV0, hV1, hV2, hV3, hV4, hV5, hV6, hV7, hV8, hV9, hV10, hV11, hV12, hV13, hV14, hV15, hV16, hV17, hV18, hV19, hV20, hV21, hV22, hV23, hV24, hV25, hV26, hV27, hV28, -⟩ G
                exact stepAt.pure (v := .slice (some ad) axes.length c) rfl (wanted_by (g := 16) (b := true) (t := 28) rfl (by kernel_rfl) (congrArg some (show vs 16 = _ from hV16 rfl))) (by go_simp) rfl
              · rintro vs u ⟨hV0, hV1, hV2, hV3, hV4, hV5, hV6, hV7, hV8, hV9, hV10, hV11, hV12, hV13, hV14, hV15, hV16, hV17, hV18, hV19, hV20, hV21, hV22, hV23, hV24, hV25, hV26, hV27, hV28, -⟩ G
                exact stepAt.pure (v := .int .i64 (j : Int)) rfl (wanted_by (g := 16) (b := true) (t := 28) rfl (by kernel_rfl) (congrArg some (show vs 16 = _ from hV16 rfl))) (by go_simp) rfl
              · rintro vs u ⟨hV0, hV1, hV2, hV3, hV4, hV5, hV6, hV7, hV8, hV9, hV10, hV11, hV12, hV13, hV14, hV15, hV16, hV17, hV18, hV19, hV20, hV21, hV22, hV23, hV24, hV25, hV26, hV27, hV28, -⟩ G
                have eV22 : vs 22 = .int .i64 (j : Int) := hV22 rfl
                exact stepAt.pure (v := .int .i64 ((j - 1 : Nat) : Int)) rfl (wanted_by (g := 16) (b := true) (t := 28) rfl (by kernel_rfl) (congrArg some (show vs 16 = _ from hV16 rfl))) (by simp only [eV22]; go_simp <;> (first | exact hw | omega)) rfl
              · rintro vs u ⟨hV0, hV1, hV2, hV3, hV4, hV5, hV6, hV7, hV8, hV9, hV10, hV11, hV12, hV13, hV14, hV15, hV16, hV17, hV18, hV19, hV20, hV21, hV22, hV23, hV24, hV25, hV26, hV27, hV28, -⟩ G
                have eV21 : vs 21 = .slice (some ad) axes.length c := hV21 rfl
                have eV23 : vs 23 = .int .i64 ((j - 1 : Nat) : Int) := hV23 rfl
                exact stepAt.pure (v := .pointer (some (ad.add (j - 1)))) rfl (wanted_by (g := 16) (b := true) (t := 28) rfl (by kernel_rfl) (congrArg some (show vs 16 = _ from hV16 rfl))) (by simp only [eV21, eV23]; go_simp <;> omega) rfl
              · rintro vs u ⟨hV0, hV1, hV2, hV3, hV4, hV5, hV6, hV7, hV8, hV9, hV10, hV11, hV12, hV13, hV14, hV15, hV16, hV17, hV18, hV19, hV20, hV21, hV22, hV23, hV24, hV25, hV26, hV27, hV28, -⟩ G
                have o0 := G.cell hz (World.block_lt_of_cell? _ _ hz)
                have eV24 : vs 24 = .pointer (some (ad.add (j - 1))) := hV24 rfl
                exact stepAt.pure (v := .int .i64 z) rfl (wanted_by (g := 16) (b := true) (t := 28) rfl (by kernel_rfl) (congrArg some (show vs 16 = _ from hV16 rfl))) (by simp only [eV24]; go_simp) rfl
              · rintro vs u ⟨hV0, hV1, hV2, hV3, hV4, hV5, hV6, hV7, hV8, hV9, hV10, hV11, hV12, hV13, hV14, hV15, hV16, hV17, hV18, hV19, hV20, hV21, hV22, hV23, hV24, hV25, hV26, hV27, hV28, -⟩ G
                have eV20 : vs 20 = .int .i64 y := hV20 rfl
                have eV25 : vs 25 = .int .i64 z := hV25 rfl
                exact stepAt.pure (v := .bool true) rfl (wanted_by (g := 16) (b := true) (t := 28) rfl (by kernel_rfl) (congrArg some (show vs 16 = _ from hV16 rfl))) (by simp only [eV20, eV25]; go_simp <;> omega) rfl
              · rintro vs u ⟨hV0, hV1, hV2, hV3, hV4, hV5, hV6, hV7, hV8, hV9, hV10, hV11, hV12, hV13, hV14, hV15, hV16, hV17, hV18, hV19, hV20, hV21, hV22, hV23, hV24, hV25, hV26, hV27, hV28, -⟩ G
                have eV16 : vs 16 = .bool true := hV16 rfl
                have eV26 : vs 26 = .bool true := hV26 rfl
                exact stepAt.pure (v := .bool true) rfl (wanted_by (g := 13) (b := false) (t := 25) rfl (by kernel_rfl) (congrArg some (show vs 13 = _ from hV13 rfl))) (by simp only [eV16, eV26]; go_simp) rfl
              · rintro vs u ⟨hV0, hV1, hV2, hV3, hV4, hV5, hV6, hV7, hV8, hV9, hV10, hV11, hV12, hV13, hV14, hV15, hV16, hV17, hV18, hV19, hV20, hV21, hV22, hV23, hV24, hV25, hV26, hV27, hV28, -⟩ G
                have eV13 : vs 13 = .bool false := hV13 rfl
                have eV27 : vs 27 = .bool true := hV27 rfl
                exact stepAt.pure (v := .bool true) rfl rfl (by simp only [eV13, eV27]; go_simp) rfl
            case looses =>
              exact trivial
            case cont =>
              rintro vs u ⟨hV0, hV1, hV2, hV3, hV4, hV5, hV6, hV7, hV8, hV9, hV10, hV11, hV12, hV13, hV14, hV15, hV16, hV17, hV18, hV19, hV20, hV21, hV22, hV23, hV24, hV25, hV26, hV27, hV28, -⟩ G
              have eV0 : vs 0 = .slice (some ad) axes.length c := hV0
              have eV1 : vs 1 = .int .i64 (j : Int) := hV1
              have eV2 : vs 2 = .pointer (some (ad.add j)) := hV2
              have eV3 : vs 3 = .int .i64 y := hV3
              have eV4 : vs 4 = .bool false := hV4
              have eV5 : vs 5 = .bool false := hV5
              have eV6 : vs 6 = .slice (some ad) axes.length c := hV6
              have eV7 : vs 7 = .int .i64 (j : Int) := hV7
              have eV8 : vs 8 = .pointer (some (ad.add j)) := hV8
              have eV9 : vs 9 = .int .i64 y := hV9
              have eV10 : vs 10 = .int .i64 (n : Int) := hV10
              have eV11 : vs 11 = .bool false := hV11
              have eV12 : vs 12 = .bool false := hV12
              have eV13 : vs 13 = .bool false := hV13
              have eV14 : vs 14 = .int .i64 (j : Int) := hV14
              have eV15 : vs 15 = .bool true := hV15
              have eV16 : vs 16 = .bool true := hV16
              have eV17 : vs 17 = .slice (some ad) axes.length c := hV17
              have eV18 : vs 18 = .int .i64 (j : Int) := hV18
              have eV19 : vs 19 = .pointer (some (ad.add j)) := hV19
              have eV20 : vs 20 = .int .i64 y := hV20
              have eV21 : vs 21 = .slice (some ad) axes.length c := hV21
              have eV22 : vs 22 = .int .i64 (j : Int) := hV22
              have eV23 : vs 23 = .int .i64 ((j - 1 : Nat) : Int) := hV23
              have eV24 : vs 24 = .pointer (some (ad.add (j - 1))) := hV24
              have eV25 : vs 25 = .int .i64 z := hV25
              have eV26 : vs 26 = .bool true := hV26
              have eV27 : vs 27 = .bool true := hV27
              have eV28 : vs 28 = .bool true := hV28
              simp only [eV0, eV1, eV2, eV3, eV4, eV5, eV6, eV7, eV8, eV9, eV10, eV11, eV12, eV13, eV14, eV15, eV16, eV17, eV18, eV19, eV20, eV21, eV22, eV23, eV24, eV25, eV26, eV27, eV28]
              clear eV0 eV1 eV2 eV3 eV4 eV5 eV6 eV7 eV8 eV9 eV10 eV11 eV12 eV13 eV14 eV15 eV16 eV17 eV18 eV19 eV20 eV21 eV22 eV23 eV24 eV25 eV26 eV27 eV28 hV0 hV1 hV2 hV3 hV4 hV5 hV6 hV7 hV8 hV9 hV10 hV11 hV12 hV13 hV14 hV15 hV16 hV17 hV18 hV19 hV20 hV21 hV22 hV23 hV24 hV25 hV26 hV27 hV28
              refine wpTill.done (by kernel_rfl) ?_
              have FU := FD.trans (G.mono fun k hk _ => hk)
              go_wp2_with fail
              go_ret
              exact ⟨rfl, FU⟩
          · clear hbad
            go_wp2_with fail
            refine wpTill.begin (fun _ => True) 28 (by kernel_rfl) ?_
            change wpTill _ _ _ _ _ _ 29 _ _ _
            refine wpTill.free (jj := 28) (m := 0) [(0, Fact.eq (.slice (some ad) axes.length c)),
      (1, Fact.eq (.int .i64 (j : Int))),
      (2, Fact.eq (.pointer (some (ad.add j)))),
      (3, Fact.eq (.int .i64 y)),
      (4, Fact.eq (.bool false)),
      (5, Fact.eq (.bool false)),
      (6, Fact.eq (.slice (some ad) axes.length c)),
      (7, Fact.eq (.int .i64 (j : Int))),
      (8, Fact.eq (.pointer (some (ad.add j)))),
      (9, Fact.eq (.int .i64 y)),
      (10, Fact.eq (.int .i64 (n : Int))),
      (11, Fact.eq (.bool false)),
      (12, Fact.eq (.bool false)),
      (13, Fact.eq (.bool false)),
      (14, Fact.eq (.int .i64 (j : Int))),
      (15, Fact.eq (.bool true)),
      (16, Fact.eq (.bool true)),
      (17, Fact.eq (.slice (some ad) axes.length c)),
      (18, Fact.eq (.int .i64 (j : Int))),
      (19, Fact.eq (.pointer (some (ad.add j)))),
      (20, Fact.eq (.int .i64 y)),
      (21, Fact.eq (.slice (some ad) axes.length c)),
      (22, Fact.eq (.int .i64 (j : Int))),
      (23, Fact.eq (.int .i64 ((j - 1 : Nat) : Int))),
      (24, Fact.eq (.pointer (some (ad.add (j - 1))))),
      (25, Fact.eq (.int .i64 z)),
      (26, Fact.eq (.bool false)),
      (27, Fact.eq (.bool false)),
      (28, Fact.eq (.bool false))] [] [0, 0, 3, 7, 15, 31, 63, 63, 255, 511, 63, 2047, 4095, 8191, 16383, 32767, 65535, 131071, 131071, 524287, 1048575, 131071, 131071, 4325375, 14811135, 31588351, 67108863, 134217727, 268435455] [] ?_ (by kernel_rfl) (by kernel_rfl) (by kernel_rfl) [(0, some 12), (1, some 13), (2, some 14), (3, some 15), (4, some 16), (5, some 17), (6, some 18), (7, some 19), (8, some 20), (9, some 21), (10, some 22), (11, some 23), (12, some 24), (13, some 25), (14, some 26), (15, some 27), (16, some 28), (17, some 29), (18, some 30), (19, some 31), (20, some 32), (21, some 33), (22, some 34), (23, some 35), (24, some 36), (25, some 37), (26, some 38), (27, some 39), (28, some 40)] (by kernel_rfl) ?hA ?hQ (fun _ _ => trivial) (by kernel_rfl) ?steps ?looses ?cont
            case hQ => exact fun _ _ _ _ _ h => h
            case hA =>
              intro vs
              simp only [fillD, List.foldl_cons, List.foldl_nil, Act.put, List.setIfInBounds_toArray, List.set_cons_zero, List.set_cons_succ]
              exact rfl
            case steps =>
              refine ⟨?_, ?_, ?_, ?_, ?_, ?_, ?_, ?_, ?_, ?_, ?_, ?_, ?_, ?_, ?_, ?_, ?_, ?_, ?_, ?_, ?_, ?_, ?_, ?_, ?_, ?_, ?_, ?_, ?_, trivial⟩
              · rintro vs u ⟨hV0, hV1, hV2, hV3, hV4, hV5, hV6, hV7, hV8, hV9, hV10, hV11, hV12, hV13, hV14, hV15, hV16, hV17, hV18, hV19, hV20, hV21, hV22, hV23, hV24, hV25, hV26, hV27, hV28, -⟩ G
                exact stepAt.pure (v := .slice (some ad) axes.length c) rfl rfl (by go_simp) rfl
              · rintro vs u ⟨hV0, hV1, hV2, hV3, hV4, hV5, hV6, hV7, hV8, hV9, hV10, hV11, hV12, hV13, hV14, hV15, hV16, hV17, hV18, hV19, hV20, hV21, hV22, hV23, hV24, hV25, hV26, hV27, hV28, -⟩ G
                exact stepAt.pure (v := .int .i64 (j : Int)) rfl rfl (by go_simp) rfl
              · rintro vs u ⟨hV0, hV1, hV2, hV3, hV4, hV5, hV6, hV7, hV8, hV9, hV10, hV11, hV12, hV13, hV14, hV15, hV16, hV17, hV18, hV19, hV20, hV21, hV22, hV23, hV24, hV25, hV26, hV27, hV28, -⟩ G
                have eV0 : vs 0 = .slice (some ad) axes.length c := hV0 rfl
                have eV1 : vs 1 = .int .i64 (j : Int) := hV1 rfl
                exact stepAt.pure (v := .pointer (some (ad.add j))) rfl rfl (by simp only [eV0, eV1]; go_simp <;> omega) rfl
              · rintro vs u ⟨hV0, hV1, hV2, hV3, hV4, hV5, hV6, hV7, hV8, hV9, hV10, hV11, hV12, hV13, hV14, hV15, hV16, hV17, hV18, hV19, hV20, hV21, hV22, hV23, hV24, hV25, hV26, hV27, hV28, -⟩ G
                have o0 := G.cell hx (World.block_lt_of_cell? _ _ hx)
                have eV2 : vs 2 = .pointer (some (ad.add j)) := hV2 rfl
                exact stepAt.pure (v := .int .i64 y) rfl rfl (by simp only [eV2]; go_simp) rfl
              · rintro vs u ⟨hV0, hV1, hV2, hV3, hV4, hV5, hV6, hV7, hV8, hV9, hV10, hV11, hV12, hV13, hV14, hV15, hV16, hV17, hV18, hV19, hV20, hV21, hV22, hV23, hV24, hV25, hV26, hV27, hV28, -⟩ G
                have eV3 : vs 3 = .int .i64 y := hV3 rfl
                exact stepAt.pure (v := .bool false) rfl rfl (by simp only [eV3]; go_simp <;> omega) rfl
              · rintro vs u ⟨hV0, hV1, hV2, hV3, hV4, hV5, hV6, hV7, hV8, hV9, hV10, hV11, hV12, hV13, hV14, hV15, hV16, hV17, hV18, hV19, hV20, hV21, hV22, hV23, hV24, hV25, hV26, hV27, hV28, -⟩ G
                have eV4 : vs 4 = .bool false := hV4 rfl
                exact stepAt.pure (v := .bool false) rfl rfl (by simp only [eV4]; go_simp) rfl
              · rintro vs u ⟨hV0, hV1, hV2, hV3, hV4, hV5, hV6, hV7, hV8, hV9, hV10, hV11, hV12, hV13, hV14, hV15, hV16, hV17, hV18, hV19, hV20, hV21, hV22, hV23, hV24, hV25, hV26, hV27, hV28, -⟩ G
                exact stepAt.pure (v := .slice (some ad) axes.length c) rfl (wanted_by (g := 5) (b := false) (t := 17) rfl (by kernel_rfl) (congrArg some (show vs 5 = _ from hV5 rfl))) (by go_simp) rfl
              · rintro vs u ⟨hV0, hV1, hV2, hV3, hV4, hV5, hV6, hV7, hV8, hV9, hV10, hV11, hV12, hV13, hV14, hV15, hV16, hV17, hV18, hV19, hV20, hV21, hV22, hV23, hV24, hV25, hV26, hV27, hV28, -⟩ G
                exact stepAt.pure (v := .int .i64 (j : Int)) rfl (wanted_by (g := 5) (b := false) (t := 17) rfl (by kernel_rfl) (congrArg some (show vs 5 = _ from hV5 rfl))) (by go_simp) rfl
              · rintro vs u ⟨hV0, hV1, hV2, hV3, hV4, hV5, hV6, hV7, hV8, hV9, hV10, hV11, hV12, hV13, hV14, hV15, hV16, hV17, hV18, hV19, hV20, hV21, hV22, hV23, hV24, hV25, hV26, hV27, hV28, -⟩ G
                have eV6 : vs 6 = .slice (some ad) axes.length c := hV6 rfl
                have eV7 : vs 7 = .int .i64 (j : Int) := hV7 rfl
                exact stepAt.pure (v := .pointer (some (ad.add j))) rfl (wanted_by (g := 5) (b := false) (t := 17) rfl (by kernel_rfl) (congrArg some (show vs 5 = _ from hV5 rfl))) (by simp only [eV6, eV7]; go_simp <;> omega) rfl
              · rintro vs u ⟨hV0, hV1, hV2, hV3, hV4, hV5, hV6, hV7, hV8, hV9, hV10, hV11, hV12, hV13, hV14, hV15, hV16, hV17, hV18, hV19, hV20, hV21, hV22, hV23, hV24, hV25, hV26, hV27, hV28, -⟩ G
                have o0 := G.cell hx (World.block_lt_of_cell? _ _ hx)
                have eV8 : vs 8 = .pointer (some (ad.add j)) := hV8 rfl
                exact stepAt.pure (v := .int .i64 y) rfl (wanted_by (g := 5) (b := false) (t := 17) rfl (by kernel_rfl) (congrArg some (show vs 5 = _ from hV5 rfl))) (by simp only [eV8]; go_simp) rfl
              · rintro vs u ⟨hV0, hV1, hV2, hV3, hV4, hV5, hV6, hV7, hV8, hV9, hV10, hV11, hV12, hV13, hV14, hV15, hV16, hV17, hV18, hV19, hV20, hV21, hV22, hV23, hV24, hV25, hV26, hV27, hV28, -⟩ G
                exact stepAt.pure (v := .int .i64 (n : Int)) rfl (wanted_by (g := 5) (b := false) (t := 17) rfl (by kernel_rfl) (congrArg some (show vs 5 = _ from hV5 rfl))) (by go_simp) rfl
              · rintro vs u ⟨hV0, hV1, hV2, hV3, hV4, hV5, hV6, hV7, hV8, hV9, hV10, hV11, hV12, hV13, hV14, hV15, hV16, hV17, hV18, hV19, hV20, hV21, hV22, hV23, hV24, hV25, hV26, hV27, hV28, -⟩ G
                have eV9 : vs 9 = .int .i64 y := hV9 rfl
                have eV10 : vs 10 = .int .i64 (n : Int) := hV10 rfl
                exact stepAt.pure (v := .bool false) rfl (wanted_by (g := 5) (b := false) (t := 17) rfl (by kernel_rfl) (congrArg some (show vs 5 = _ from hV5 rfl))) (by simp only [eV9, eV10]; go_simp <;> omega) rfl
              · rintro vs u ⟨hV0, hV1, hV2, hV3, hV4, hV5, hV6, hV7, hV8, hV9, hV10, hV11, hV12, hV13, hV14, hV15, hV16, hV17, hV18, hV19, hV20, hV21, hV22, hV23, hV24, hV25, hV26, hV27, hV28, -⟩ G
                have eV5 : vs 5 = .bool false := hV5 rfl
                have eV11 : vs 11 = .bool false := hV11 rfl
                exact stepAt.pure (v := .bool false) rfl rfl (by simp only [eV5, eV11]; go_simp) rfl
              · rintro vs u ⟨hV0, hV1, hV2, hV3, hV4, hV5, hV6, hV7, hV8, hV9, hV10, hV11, hV12, hV13, hV14, hV15, hV16, hV17, hV18, hV19, hV20, hV21, hV22, hV23, hV24, hV25, hV26, hV27, hV28, -⟩ G
                have eV12 : vs 12 = .bool false := hV12 rfl
                exact stepAt.pure (v := .bool false) rfl rfl (by simp only [eV12]; go_simp) rfl
              · rintro vs u ⟨hV0, hV1, hV2, hV3, hV4, hV5, hV6, hV7, hV8, hV9, hV10, hV11, hV12, hV13, hV14, hV15, hV16, hV17, hV18, hV19, hV20, hV21, hV22, hV23, hV24, hV25, hV26, hV27, hV28, -⟩ G
                exact stepAt.pure (v := .int .i64 (j : Int)) rfl (wanted_by (g := 13) (b := false) (t := 25) rfl (by kernel_rfl) (congrArg some (show vs 13 = _ from hV13 rfl))) (by go_simp) rfl
              · rintro vs u ⟨hV0, hV1, hV2, hV3, hV4, hV5, hV6, hV7, hV8, hV9, hV10, hV11, hV12, hV13, hV14, hV15, hV16, hV17, hV18, hV19, hV20, hV21, hV22, hV23, hV24, hV25, hV26, hV27, hV28, -⟩ G
                have eV14 : vs 14 = .int .i64 (j : Int) := hV14 rfl
                exact stepAt.pure (v := .bool true) rfl (wanted_by (g := 13) (b := false) (t := 25) rfl (by kernel_rfl) (congrArg some (show vs 13 = _ from hV13 rfl))) (by simp only [eV14]; go_simp <;> omega) rfl
              · rintro vs u ⟨hV0, hV1, hV2, hV3, hV4, hV5, hV6, hV7, hV8, hV9, hV10, hV11, hV12, hV13, hV14, hV15, hV16, hV17, hV18, hV19, hV20, hV21, hV22, hV23, hV24, hV25, hV26, hV27, hV28, -⟩ G
                have eV15 : vs 15 = .bool true := hV15 rfl
                exact stepAt.pure (v := .bool true) rfl (wanted_by (g := 13) (b := false) (t := 25) rfl (by kernel_rfl) (congrArg some (show vs 13 = _ from hV13 rfl))) (by simp only [eV15]; go_simp) rfl
              · rintro vs u ⟨hV0, hV1, hV2, hV3, hV4, hV5, hV6, hV7, hV8, hV9, hV10, hV11, hV12, hV13, hV14, hV15, hV16, hV17, hV18, hV19, hV20, hV21, hV22, hV23, hV24, hV25, hV26, hV27, hV28, -⟩ G
                exact stepAt.pure (v := .slice (some ad) axes.length c) rfl (wanted_by (g := 16) (b := true) (t := 28) rfl (by kernel_rfl) (congrArg some (show vs 16 = _ from hV16 rfl))) (by go_simp) rfl
              · rintro vs u ⟨hV0, hV1, hV2, hV3, hV4, hV5, hV6, hV7, hV8, hV9, hV10, hV11, hV12, hV13, hV14, hV15, hV16, hV17, hV18, hV19, hV20, hV21, hV22, hV23, hV24, hV25, hV26, hV27, hV28, -⟩ G
                exact stepAt.pure (v := .int .i64 (j : Int)) rfl (wanted_by (g := 16) (b := true) (t := 28) rfl (by kernel_rfl) (congrArg some (show vs 16 = _ from hV16 rfl))) (by go_simp) rfl
              · rintro vs u ⟨hV0, hV1, hV2, hV3, hV4, hV5, hV6, hV7, hV8, hV9, hV10, hV11, hV12, hV13, hV14, hV15, hV16, hV17, hV18, hV19, hV20, hV21, hV22, hV23, hV24, hV25, hV26, hV27, hV28, -⟩ G
                have eV17 : vs 17 = .slice (some ad) axes.length c := hV17 rfl
                have eV18 : vs 18 = .int .i64 (j : Int) := hV18 rfl
                exact stepAt.pure (v := .pointer (some (ad.add j))) rfl (wanted_by (g := 16) (b := true) (t := 28) rfl (by kernel_rfl) (congrArg some (show vs 16 = _ from hV16 rfl))) (by simp only [eV17, eV18]; go_simp <;> omega) rfl
              · rintro vs u ⟨hV0, hV1, hV2, hV3, hV4, hV5, hV6, hV7, hV8, hV9, hV10, hV11, hV12, hV13, hV14, hV15, hV16, hV17, hV18, hV19, hV20, hV21, hV22, hV23, hV24, hV25, hV26, hV27, hV28, -⟩ G
                have o0 := G.cell hx (World.block_lt_of_cell? _ _ hx)
                have eV19 : vs 19 = .pointer (some (ad.add j)) := hV19 rfl
                exact stepAt.pure (v := .int .i64 y) rfl (wanted_by (g := 16) (b := true) (t := 28) rfl (by kernel_rfl) (congrArg some (show vs 16 = _ from hV16 rfl))) (by simp only [eV19]; go_simp) rfl
              · rintro vs u ⟨hV0, hV1, hV2, hV3, hV4, hV5, hV6, hV7, hV8, hV9, hV10, hV11, hV12, hV13, hV14, hV15, hV16, hV17, hV18, hV19, hV20, hV21, hV22, hV23, hV24, hV25, hV26, hV27, hV28, -⟩ G
                exact stepAt.pure (v := .slice (some ad) axes.length c) rfl (wanted_by (g := 16) (b := true) (t := 28) rfl (by kernel_rfl) (congrArg some (show vs 16 = _ from hV16 rfl))) (by go_simp) rfl
              · rintro vs u ⟨hV0, hV1, hV2, hV3, hV4, hV5, hV6, hV7, hV8, hV9, hV10, hV11, hV12, hV13, hV14, hV15, hV16, hV17, hV18, hV19, hV20, hV21, hV22, hV23, hV24, hV25, hV26, hV27, hV28, -⟩ G
                exact stepAt.pure (v := .int .i64 (j : Int)) rfl (wanted_by (g := 16) (b := true) (t := 28) rfl (by kernel_rfl) (congrArg some (show vs 16 = _ from hV16 rfl))) (by go_simp) rfl
              · rintro vs u ⟨hV0, hV1, hV2, hV3, hV4, hV5, hV6, hV7, hV8, hV9, hV10, hV11, hV12, hV13, hV14, hV15, hV16, hV17, hV18, hV19, hV20, hV21, hV22, hV23, hV24, hV25, hV26, hV27, hV28, -⟩ G
                have eV22 : vs 22 = .int .i64 (j : Int) := hV22 rfl
                exact stepAt.pure (v := .int .i64 ((j - 1 : Nat) : Int)) rfl (wanted_by (g := 16) (b := true) (t := 28) rfl (by kernel_rfl) (congrArg some (show vs 16 = _ from hV16 rfl))) (by simp only [eV22]; go_simp <;> (first | exact hw | omega)) rfl
              · rintro vs u ⟨hV0, hV1, hV2, hV3, hV4, hV5, hV6, hV7, hV8, hV9, hV10, hV11, hV12, hV13, hV14, hV15, hV16, hV17, hV18, hV19, hV20, hV21, hV22, hV23, hV24, hV25, hV26, hV27, hV28, -⟩ G
                have eV21 : vs 21 = .slice (some ad) axes.length c := hV21 rfl
                have eV23 : vs 23 = .int .i64 ((j - 1 : Nat) : Int) := hV23 rfl
                exact stepAt.pure (v := .pointer (some (ad.add (j - 1)))) rfl (wanted_by (g := 16) (b := true) (t := 28) rfl (by kernel_rfl) (congrArg some (show vs 16 = _ from hV16 rfl))) (by simp only [eV21, eV23]; go_simp <;> omega) rfl
              · rintro vs u ⟨hV0, hV1, hV2, hV3, hV4, hV5, hV6, hV7, hV8, hV9, hV10, hV11, hV12, hV13, hV14, hV15, hV16, hV17, hV18, hV19, hV20, hV21, hV22, hV23, hV24, hV25, hV26, hV27, hV28, -⟩ G
                have o0 := G.cell hz (World.block_lt_of_cell? _ _ hz)
                have eV24 : vs 24 = .pointer (some (ad.add (j - 1))) := hV24 rfl
                exact stepAt.pure (v := .int .i64 z) rfl (wanted_by (g := 16) (b := true) (t := 28) rfl (by kernel_rfl) (congrArg some (show vs 16 = _ from hV16 rfl))) (by simp only [eV24]; go_simp) rfl
              · rintro vs u ⟨hV0, hV1, hV2, hV3, hV4, hV5, hV6, hV7, hV8, hV9, hV10, hV11, hV12, hV13, hV14, hV15, hV16, hV17, hV18, hV19, hV20, hV21, hV22, hV23, hV24, hV25, hV26, hV27, hV28, -⟩ G
                have eV20 : vs 20 = .int .i64 y := hV20 rfl
                have eV25 : vs 25 = .int .i64 z := hV25 rfl
                exact stepAt.pure (v := .bool false) rfl (wanted_by (g := 16) (b := true) (t := 28) rfl (by kernel_rfl) (congrArg some (show vs 16 = _ from hV16 rfl))) (by simp only [eV20, eV25]; go_simp <;> omega) rfl
              · rintro vs u ⟨hV0, hV1, hV2, hV3, hV4, hV5, hV6, hV7, hV8, hV9, hV10, hV11, hV12, hV13, hV14, hV15, hV16, hV17, hV18, hV19, hV20, hV21, hV22, hV23, hV24, hV25, hV26, hV27, hV28, -⟩ G
                have eV16 : vs 16 = .bool true := hV16 rfl
                have eV26 : vs 26 = .bool false := hV26 rfl
                exact stepAt.pure (v := .bool false) rfl (wanted_by (g := 13) (b := false) (t := 25) rfl (by kernel_rfl) (congrArg some (show vs 13 = _ from hV13 rfl))) (by simp only [eV16, eV26]; go_simp) rfl
              · rintro vs u ⟨hV0, hV1, hV2, hV3, hV4, hV5, hV6, hV7, hV8, hV9, hV10, hV11, hV12, hV13, hV14, hV15, hV16, hV17, hV18, hV19, hV20, hV21, hV22, hV23, hV24, hV25, hV26, hV27, hV28, -⟩ G
                have eV13 : vs 13 = .bool false := hV13 rfl
                have eV27 : vs 27 = .bool false := hV27 rfl
                exact stepAt.pure (v := .bool false) rfl rfl (by simp only [eV13, eV27]; go_simp) rfl
            case looses =>
              exact trivial
            case cont =>
              rintro vs u ⟨hV0, hV1, hV2, hV3, hV4, hV5, hV6, hV7, hV8, hV9, hV10, hV11, hV12, hV13, hV14, hV15, hV16, hV17, hV18, hV19, hV20, hV21, hV22, hV23, hV24, hV25, hV26, hV27, hV28, -⟩ G
              have eV0 : vs 0 = .slice (some ad) axes.length c := hV0
              have eV1 : vs 1 = .int .i64 (j : Int) := hV1
              have eV2 : vs 2 = .pointer (some (ad.add j)) := hV2
              have eV3 : vs 3 = .int .i64 y := hV3
              have eV4 : vs 4 = .bool false := hV4
              have eV5 : vs 5 = .bool false := hV5
              have eV6 : vs 6 = .slice (some ad) axes.length c := hV6
              have eV7 : vs 7 = .int .i64 (j : Int) := hV7
              have eV8 : vs 8 = .pointer (some (ad.add j)) := hV8
              have eV9 : vs 9 = .int .i64 y := hV9
              have eV10 : vs 10 = .int .i64 (n : Int) := hV10
              have eV11 : vs 11 = .bool false := hV11
              have eV12 : vs 12 = .bool false := hV12
              have eV13 : vs 13 = .bool false := hV13
              have eV14 : vs 14 = .int .i64 (j : Int) := hV14
              have eV15 : vs 15 = .bool true := hV15
              have eV16 : vs 16 = .bool true := hV16
              have eV17 : vs 17 = .slice (some ad) axes.length c := hV17
              have eV18 : vs 18 = .int .i64 (j : Int) := hV18
              have eV19 : vs 19 = .pointer (some (ad.add j)) := hV19
              have eV20 : vs 20 = .int .i64 y := hV20
              have eV21 : vs 21 = .slice (some ad) axes.length c := hV21
              have eV22 : vs 22 = .int .i64 (j : Int) := hV22
              have eV23 : vs 23 = .int .i64 ((j - 1 : Nat) : Int) := hV23
              have eV24 : vs 24 = .pointer (some (ad.add (j - 1))) := hV24
              have eV25 : vs 25 = .int .i64 z := hV25
              have eV26 : vs 26 = .bool false := hV26
              have eV27 : vs 27 = .bool false := hV27
              have eV28 : vs 28 = .bool false := hV28
              simp only [eV0, eV1, eV2, eV3, eV4, eV5, eV6, eV7, eV8, eV9, eV10, eV11, eV12, eV13, eV14, eV15, eV16, eV17, eV18, eV19, eV20, eV21, eV22, eV23, eV24, eV25, eV26, eV27, eV28]
              clear eV0 eV1 eV2 eV3 eV4 eV5 eV6 eV7 eV8 eV9 eV10 eV11 eV12 eV13 eV14 eV15 eV16 eV17 eV18 eV19 eV20 eV21 eV22 eV23 eV24 eV25 eV26 eV27 eV28 hV0 hV1 hV2 hV3 hV4 hV5 hV6 hV7 hV8 hV9 hV10 hV11 hV12 hV13 hV14 hV15 hV16 hV17 hV18 hV19 hV20 hV21 hV22 hV23 hV24 hV25 hV26 hV27 hV28
              refine wpTill.done (by kernel_rfl) ?_
              have FU := FD.trans (G.mono fun k hk _ => hk)
              go_wp2_with fail
              go_roundw
              case rel =>
                refine ⟨j + 1, by omega, by go_num, Lib.hid fun k hk => ?_, FU⟩
                rcases Nat.lt_succ_iff_lt_or_eq.1 hk with h | rfl
                · exact HK.out k h
                · rw [HG.out, HG'.out]
                  exact ⟨⟨by omega, fun _ => by omega⟩, by omega⟩
              case measure => first | (simp [intOf]; done) | (simp [intOf]; omega)
        · clear hbad
          obtain rfl : j = 0 := by omega
          rw [addr_zero] at hx
          go_wp2_with fail
          refine wpTill.begin (fun _ => True) 28 (by kernel_rfl) ?_
          change wpTill _ _ _ _ _ _ 29 _ _ _
          refine wpTill.free (jj := 28) (m := 0) [(0, Fact.eq (.slice (some ad) axes.length c)),
      (1, Fact.eq (.int .i64 ((0 : Nat) : Int))),
      (2, Fact.eq (.pointer (some ad))),
      (3, Fact.eq (.int .i64 y)),
      (4, Fact.eq (.bool false)),
      (5, Fact.eq (.bool false)),
      (6, Fact.eq (.slice (some ad) axes.length c)),
      (7, Fact.eq (.int .i64 ((0 : Nat) : Int))),
      (8, Fact.eq (.pointer (some ad))),
      (9, Fact.eq (.int .i64 y)),
      (10, Fact.eq (.int .i64 (n : Int))),
      (11, Fact.eq (.bool false)),
      (12, Fact.eq (.bool false)),
      (13, Fact.eq (.bool false)),
      (14, Fact.eq (.int .i64 ((0 : Nat) : Int))),
      (15, Fact.eq (.bool false)),
      (16, Fact.eq (.bool false)),
      (17, Fact.eq undef),
      (18, Fact.eq undef),
      (19, Fact.eq undef),
      (20, Fact.eq undef),
      (21, Fact.eq undef),
      (22, Fact.eq undef),
      (23, Fact.eq undef),
      (24, Fact.eq undef),
      (25, Fact.eq undef),
      (26, Fact.eq undef),
      (27, Fact.eq (.bool false)),
      (28, Fact.eq (.bool false))] [] [0, 0, 3, 7, 15, 31, 63, 63, 255, 511, 63, 2047, 4095, 8191, 16383, 32767, 65535, 131071, 131071, 524287, 1048575, 131071, 131071, 4325375, 14811135, 31588351, 67108863, 134217727, 268435455] [] ?_ (by kernel_rfl) (by kernel_rfl) (by kernel_rfl) [(0, some 12), (1, some 13), (2, some 14), (3, some 15), (4, some 16), (5, some 17), (6, some 18), (7, some 19), (8, some 20), (9, some 21), (10, some 22), (11, some 23), (12, some 24), (13, some 25), (14, some 26), (15, some 27), (16, some 28), (17, some 29), (18, some 30), (19, some 31), (20, some 32), (21, some 33), (22, some 34), (23, some 35), (24, some 36), (25, some 37), (26, some 38), (27, some 39), (28, some 40)] (by kernel_rfl) ?hA ?hQ (fun _ _ => trivial) (by kernel_rfl) ?steps ?looses ?cont
          case hQ => exact fun _ _ _ _ _ h => h
          case hA =>
            intro vs
            simp only [fillD, List.foldl_cons, List.foldl_nil, Act.put, List.setIfInBounds_toArray, List.set_cons_zero, List.set_cons_succ]
            exact rfl
          case steps =>
            refine ⟨?_, ?_, ?_, ?_, ?_, ?_, ?_, ?_, ?_, ?_, ?_, ?_, ?_, ?_, ?_, ?_, ?_, ?_, ?_, ?_, ?_, ?_, ?_, ?_, ?_, ?_, ?_, ?_, ?_, trivial⟩
            · rintro vs u ⟨hV0, hV1, hV2, hV3, hV4, hV5, hV6, hV7, hV8, hV9, hV10, hV11, hV12, hV13, hV14, hV15, hV16, hV17, hV18, hV19, hV20, hV21, hV22, hV23, hV24, hV25, hV26, hV27, hV28, -⟩ G
              exact stepAt.pure (v := .slice (some ad) axes.length c) rfl rfl (by go_simp) rfl
            · rintro vs u ⟨hV0, hV1, hV2, hV3, hV4, hV5, hV6, hV7, hV8, hV9, hV10, hV11, hV12, hV13, hV14, hV15, hV16, hV17, hV18, hV19, hV20, hV21, hV22, hV23, hV24, hV25, hV26, hV27, hV28, -⟩ G
              exact stepAt.pure (v := .int .i64 ((0 : Nat) : Int)) rfl rfl (by go_simp) rfl
            · rintro vs u ⟨hV0, hV1, hV2, hV3, hV4, hV5, hV6, hV7, hV8, hV9, hV10, hV11, hV12, hV13, hV14, hV15, hV16, hV17, hV18, hV19, hV20, hV21, hV22, hV23, hV24, hV25, hV26, hV27, hV28, -⟩ G
              have eV0 : vs 0 = .slice (some ad) axes.length c := hV0 rfl
              have eV1 : vs 1 = .int .i64 ((0 : Nat) : Int) := hV1 rfl
              exact stepAt.pure (v := .pointer (some ad)) rfl rfl (by simp only [eV0, eV1]; go_simp <;> omega) rfl
            · rintro vs u ⟨hV0, hV1, hV2, hV3, hV4, hV5, hV6, hV7, hV8, hV9, hV10, hV11, hV12, hV13, hV14, hV15, hV16, hV17, hV18, hV19, hV20, hV21, hV22, hV23, hV24, hV25, hV26, hV27, hV28, -⟩ G
              have o0 := G.cell hx (World.block_lt_of_cell? _ _ hx)
              have eV2 : vs 2 = .pointer (some ad) := hV2 rfl
              exact stepAt.pure (v := .int .i64 y) rfl rfl (by simp only [eV2]; go_simp) rfl
            · rintro vs u ⟨hV0, hV1, hV2, hV3, hV4, hV5, hV6, hV7, hV8, hV9, hV10, hV11, hV12, hV13, hV14, hV15, hV16, hV17, hV18, hV19, hV20, hV21, hV22, hV23, hV24, hV25, hV26, hV27, hV28, -⟩ G
              have eV3 : vs 3 = .int .i64 y := hV3 rfl
              exact stepAt.pure (v := .bool false) rfl rfl (by simp only [eV3]; go_simp <;> omega) rfl
            · rintro vs u ⟨hV0, hV1, hV2, hV3, hV4, hV5, hV6, hV7, hV8, hV9, hV10, hV11, hV12, hV13, hV14, hV15, hV16, hV17, hV18, hV19, hV20, hV21, hV22, hV23, hV24, hV25, hV26, hV27, hV28, -⟩ G
              have eV4 : vs 4 = .bool false := hV4 rfl
              exact stepAt.pure (v := .bool false) rfl rfl (by simp only [eV4]; go_simp) rfl
            · rintro vs u ⟨hV0, hV1, hV2, hV3, hV4, hV5, hV6, hV7, hV8, hV9, hV10, hV11, hV12, hV13, hV14, hV15, hV16, hV17, hV18, hV19, hV20, hV21, hV22, hV23, hV24, hV25, hV26, hV27, hV28, -⟩ G
              exact stepAt.pure (v := .slice (some ad) axes.length c) rfl (wanted_by (g := 5) (b := false) (t := 17) rfl (by kernel_rfl) (congrArg some (show vs 5 = _ from hV5 rfl))) (by go_simp) rfl
            · rintro vs u ⟨hV0, hV1, hV2, hV3, hV4, hV5, hV6, hV7, hV8, hV9, hV10, hV11, hV12, hV13, hV14, hV15, hV16, hV17, hV18, hV19, hV20, hV21, hV22, hV23, hV24, hV25, hV26, hV27, hV28, -⟩ G
              exact stepAt.pure (v := .int .i64 ((0 : Nat) : Int)) rfl (wanted_by (g := 5) (b := false) (t := 17) rfl (by kernel_rfl) (congrArg some (show vs 5 = _ from hV5 rfl))) (by go_simp) rfl
            · rintro vs u ⟨hV0, hV1, hV2, hV3, hV4, hV5, hV6, hV7, hV8, hV9, hV10, hV11, hV12, hV13, hV14, hV15, hV16, hV17, hV18, hV19, hV20, hV21, hV22, hV23, hV24, hV25, hV26, hV27, hV28, -⟩ G
              have eV6 : vs 6 = .slice (some ad) axes.length c := hV6 rfl
              have eV7 : vs 7 = .int .i64 ((0 : Nat) : Int) := hV7 rfl
              exact stepAt.pure (v := .pointer (some ad)) rfl (wanted_by (g := 5) (b := false) (t := 17) rfl (by kernel_rfl) (congrArg some (show vs 5 = _ from hV5 rfl))) (by simp only [eV6, eV7]; go_simp <;> omega) rfl
            · rintro vs u ⟨hV0, hV1, hV2, hV3, hV4, hV5, hV6, hV7, hV8, hV9, hV10, hV11, hV12, hV13, hV14, hV15, hV16, hV17, hV18, hV19, hV20, hV21, hV22, hV23, hV24, hV25, hV26, hV27, hV28, -⟩ G
              have o0 := G.cell hx (World.block_lt_of_cell? _ _ hx)
              have eV8 : vs 8 = .pointer (some ad) := hV8 rfl
              exact stepAt.pure (v := .int .i64 y) rfl (wanted_by (g := 5) (b := false) (t := 17) rfl (by kernel_rfl) (congrArg some (show vs 5 = _ from hV5 rfl))) (by simp only [eV8]; go_simp) rfl
            · rintro vs u ⟨hV0, hV1, hV2, hV3, hV4, hV5, hV6, hV7, hV8, hV9, hV10, hV11, hV12, hV13, hV14, hV15, hV16, hV17, hV18, hV19, hV20, hV21, hV22, hV23, hV24, hV25, hV26, hV27, hV28, -⟩ G
              exact stepAt.pure (v := .int .i64 (n : Int)) rfl (wanted_by (g := 5) (b := false) (t := 17) rfl (by kernel_rfl) (congrArg some (show vs 5 = _ from hV5 rfl))) (by go_simp) rfl
            · rintro vs u ⟨hV0, hV1, hV2, hV3, hV4, hV5, hV6, hV7, hV8, hV9, hV10, hV11, hV12, hV13, hV14, hV15, hV16, hV17, hV18, hV19, hV20, hV21, hV22, hV23, hV24, hV25, hV26, hV27, hV28, -⟩ G
              have eV9 : vs 9 = .int .i64 y := hV9 rfl
              have eV10 : vs 10 = .int .i64 (n : Int) := hV10 rfl
              exact stepAt.pure (v := .bool false) rfl (wanted_by (g := 5) (b := false) (t := 17) rfl (by kernel_rfl) (congrArg some (show vs 5 = _ from hV5 rfl))) (by simp only [eV9, eV10]; go_simp <;> omega) rfl
            · rintro vs u ⟨hV0, hV1, hV2, hV3, hV4, hV5, hV6, hV7, hV8, hV9, hV10, hV11, hV12, hV13, hV14, hV15, hV16, hV17, hV18, hV19, hV20, hV21, hV22, hV23, hV24, hV25, hV26, hV27, hV28, -⟩ G
              have eV5 : vs 5 = .bool false := hV5 rfl
              have eV11 : vs 11 = .bool false := hV11 rfl
              exact stepAt.pure (v := .bool false) rfl rfl (by simp only [eV5, eV11]; go_simp) rfl
            · rintro vs u ⟨hV0, hV1, hV2, hV3, hV4, hV5, hV6, hV7, hV8, hV9, hV10, hV11, hV12, hV13, hV14, hV15, hV16, hV17, hV18, hV19, hV20, hV21, hV22, hV23, hV24, hV25, hV26, hV27, hV28, -⟩ G
              have eV12 : vs 12 = .bool false := hV12 rfl
              exact stepAt.pure (v := .bool false) rfl rfl (by simp only [eV12]; go_simp) rfl
            · rintro vs u ⟨hV0, hV1, hV2, hV3, hV4, hV5, hV6, hV7, hV8, hV9, hV10, hV11, hV12, hV13, hV14, hV15, hV16, hV17, hV18, hV19, hV20, hV21, hV22, hV23, hV24, hV25, hV26, hV27, hV28, -⟩ G
              exact stepAt.pure (v := .int .i64 ((0 : Nat) : Int)) rfl (wanted_by (g := 13) (b := false) (t := 25) rfl (by kernel_rfl) (congrArg some (show vs 13 = _ from hV13 rfl))) (by go_simp) rfl
            · rintro vs u ⟨hV0, hV1, hV2, hV3, hV4, hV5, hV6, hV7, hV8, hV9, hV10, hV11, hV12, hV13, hV14, hV15, hV16, hV17, hV18, hV19, hV20, hV21, hV22, hV23, hV24, hV25, hV26, hV27, hV28, -⟩ G
              have eV14 : vs 14 = .int .i64 ((0 : Nat) : Int) := hV14 rfl
              exact stepAt.pure (v := .bool false) rfl (wanted_by (g := 13) (b := false) (t := 25) rfl (by kernel_rfl) (congrArg some (show vs 13 = _ from hV13 rfl))) (by simp only [eV14]; go_simp <;> omega) rfl
            · rintro vs u ⟨hV0, hV1, hV2, hV3, hV4, hV5, hV6, hV7, hV8, hV9, hV10, hV11, hV12, hV13, hV14, hV15, hV16, hV17, hV18, hV19, hV20, hV21, hV22, hV23, hV24, hV25, hV26, hV27, hV28, -⟩ G
              have eV15 : vs 15 = .bool false := hV15 rfl
              exact stepAt.pure (v := .bool false) rfl (wanted_by (g := 13) (b := false) (t := 25) rfl (by kernel_rfl) (congrArg some (show vs 13 = _ from hV13 rfl))) (by simp only [eV15]; go_simp) rfl
            · rintro vs u ⟨hV0, hV1, hV2, hV3, hV4, hV5, hV6, hV7, hV8, hV9, hV10, hV11, hV12, hV13, hV14, hV15, hV16, hV17, hV18, hV19, hV20, hV21, hV22, hV23, hV24, hV25, hV26, hV27, hV28, -⟩ G
              exact stepAt.unwanted rfl (wanted_not (g := 16) (b := true) (t := 28) rfl (by kernel_rfl) (congrArg some (show vs 16 = _ from hV16 rfl))) rfl
            · rintro vs u ⟨hV0, hV1, hV2, hV3, hV4, hV5, hV6, hV7, hV8, hV9, hV10, hV11, hV12, hV13, hV14, hV15, hV16, hV17, hV18, hV19, hV20, hV21, hV22, hV23, hV24, hV25, hV26, hV27, hV28, -⟩ G
              exact stepAt.unwanted rfl (wanted_not (g := 16) (b := true) (t := 28) rfl (by kernel_rfl) (congrArg some (show vs 16 = _ from hV16 rfl))) rfl
            · rintro vs u ⟨hV0, hV1, hV2, hV3, hV4, hV5, hV6, hV7, hV8, hV9, hV10, hV11, hV12, hV13, hV14, hV15, hV16, hV17, hV18, hV19, hV20, hV21, hV22, hV23, hV24, hV25, hV26, hV27, hV28, -⟩ G
              exact stepAt.unwanted rfl (wanted_not (g := 16) (b := true) (t := 28) rfl (by kernel_rfl) (congrArg some (show vs 16 = _ from hV16 rfl))) rfl
            · rintro vs u ⟨hV0, hV1, hV2, hV3, hV4, hV5, hV6, hV7, hV8, hV9, hV10, hV11, hV12, hV13, hV14, hV15, hV16, hV17, hV18, hV19, hV20, hV21, hV22, hV23, hV24, hV25, hV26, hV27, hV28, -⟩ G
              exact stepAt.unwanted rfl (wanted_not (g := 16) (b := true) (t := 28) rfl (by kernel_rfl) (congrArg some (show vs 16 = _ from hV16 rfl))) rfl
            · rintro vs u ⟨hV0, hV1, hV2, hV3, hV4, hV5, hV6, hV7, hV8, hV9, hV10, hV11, hV12, hV13, hV14, hV15, hV16, hV17, hV18, hV19, hV20, hV21, hV22, hV23, hV24, hV25, hV26, hV27, hV28, -⟩ G
              exact stepAt.unwanted rfl (wanted_not (g := 16) (b := true) (t := 28) rfl (by kernel_rfl) (congrArg some (show vs 16 = _ from hV16 rfl))) rfl
            · rintro vs u ⟨hV0, hV1, hV2, hV3, hV4, hV5, hV6, hV7, hV8, hV9, hV10, hV11, hV12, hV13, hV14, hV15, hV16, hV17, hV18, hV19, hV20, hV21, hV22, hV23, hV24, hV25, hV26, hV27, hV28, -⟩ G
              exact stepAt.unwanted rfl (wanted_not (g := 16) (b := true) (t := 28) rfl (by kernel_rfl) (congrArg some (show vs 16 = _ from hV16 rfl))) rfl
            · rintro vs u ⟨hV0, hV1, hV2, hV3, hV4, hV5, hV6, hV7, hV8, hV9, hV10, hV11, hV12, hV13, hV14, hV15, hV16, hV17, hV18, hV19, hV20, hV21, hV22, hV23, hV24, hV25, hV26, hV27, hV28, -⟩ G
              exact stepAt.unwanted rfl (wanted_not (g := 16) (b := true) (t := 28) rfl (by kernel_rfl) (congrArg some (show vs 16 = _ from hV16 rfl))) rfl
            · rintro vs u ⟨hV0, hV1, hV2, hV3, hV4, hV5, hV6, hV7, hV8, hV9, hV10, hV11, hV12, hV13, hV14, hV15, hV16, hV17, hV18, hV19, hV20, hV21, hV22, hV23, hV24, hV25, hV26, hV27, hV28, -⟩ G
              exact stepAt.unwanted rfl (wanted_not (g := 16) (b := true) (t := 28) rfl (by kernel_rfl) (congrArg some (show vs 16 = _ from hV16 rfl))) rfl
            · rintro vs u ⟨hV0, hV1, hV2, hV3, hV4, hV5, hV6, hV7, hV8, hV9, hV10, hV11, hV12, hV13, hV14, hV15, hV16, hV17, hV18, hV19, hV20, hV21, hV22, hV23, hV24, hV25, hV26, hV27, hV28, -⟩ G
              exact stepAt.unwanted rfl (wanted_not (g := 16) (b := true) (t := 28) rfl (by kernel_rfl) (congrArg some (show vs 16 = _ from hV16 rfl))) rfl
            · rintro vs u ⟨hV0, hV1, hV2, hV3, hV4, hV5, hV6, hV7, hV8, hV9, hV10, hV11, hV12, hV13, hV14, hV15, hV16, hV17, hV18, hV19, hV20, hV21, hV22, hV23, hV24, hV25, hV26, hV27, hV28, -⟩ G
              exact stepAt.unwanted rfl (wanted_not (g := 16) (b := true) (t := 28) rfl (by kernel_rfl) (congrArg some (show vs 16 = _ from hV16 rfl))) rfl
            · rintro vs u ⟨hV0, hV1, hV2, hV3, hV4, hV5, hV6, hV7, hV8, hV9, hV10, hV11, hV12, hV13, hV14, hV15, hV16, hV17, hV18, hV19, hV20, hV21, hV22, hV23, hV24, hV25, hV26, hV27, hV28, -⟩ G
              have eV16 : vs 16 = .bool false := hV16 rfl
              have eV26 : vs 26 = undef := hV26 rfl
              exact stepAt.pure (v := .bool false) rfl (wanted_by (g := 13) (b := false) (t := 25) rfl (by kernel_rfl) (congrArg some (show vs 13 = _ from hV13 rfl))) (by simp only [eV16, eV26]; go_simp) rfl
            · rintro vs u ⟨hV0, hV1, hV2, hV3, hV4, hV5, hV6, hV7, hV8, hV9, hV10, hV11, hV12, hV13, hV14, hV15, hV16, hV17, hV18, hV19, hV20, hV21, hV22, hV23, hV24, hV25, hV26, hV27, hV28, -⟩ G
              have eV13 : vs 13 = .bool false := hV13 rfl
              have eV27 : vs 27 = .bool false := hV27 rfl
              exact stepAt.pure (v := .bool false) rfl rfl (by simp only [eV13, eV27]; go_simp) rfl
          case looses =>
            exact trivial
          case cont =>
            rintro vs u ⟨hV0, hV1, hV2, hV3, hV4, hV5, hV6, hV7, hV8, hV9, hV10, hV11, hV12, hV13, hV14, hV15, hV16, hV17, hV18, hV19, hV20, hV21, hV22, hV23, hV24, hV25, hV26, hV27, hV28, -⟩ G
            have eV0 : vs 0 = .slice (some ad) axes.length c := hV0
            have eV1 : vs 1 = .int .i64 ((0 : Nat) : Int) := hV1
            have eV2 : vs 2 = .pointer (some ad) := hV2
            have eV3 : vs 3 = .int .i64 y := hV3
            have eV4 : vs 4 = .bool false := hV4
            have eV5 : vs 5 = .bool false := hV5
            have eV6 : vs 6 = .slice (some ad) axes.length c := hV6
            have eV7 : vs 7 = .int .i64 ((0 : Nat) : Int) := hV7
            have eV8 : vs 8 = .pointer (some ad) := hV8
            have eV9 : vs 9 = .int .i64 y := hV9
            have eV10 : vs 10 = .int .i64 (n : Int) := hV10
            have eV11 : vs 11 = .bool false := hV11
            have eV12 : vs 12 = .bool false := hV12
            have eV13 : vs 13 = .bool false := hV13
            have eV14 : vs 14 = .int .i64 ((0 : Nat) : Int) := hV14
            have eV15 : vs 15 = .bool false := hV15
            have eV16 : vs 16 = .bool false := hV16
            have eV17 : vs 17 = undef := hV17
            have eV18 : vs 18 = undef := hV18
            have eV19 : vs 19 = undef := hV19
            have eV20 : vs 20 = undef := hV20
            have eV21 : vs 21 = undef := hV21
            have eV22 : vs 22 = undef := hV22
            have eV23 : vs 23 = undef := hV23
            have eV24 : vs 24 = undef := hV24
            have eV25 : vs 25 = undef := hV25
            have eV26 : vs 26 = undef := hV26
            have eV27 : vs 27 = .bool false := hV27
            have eV28 : vs 28 = .bool false := hV28
            simp only [eV0, eV1, eV2, eV3, eV4, eV5, eV6, eV7, eV8, eV9, eV10, eV11, eV12, eV13, eV14, eV15, eV16, eV17, eV18, eV19, eV20, eV21, eV22, eV23, eV24, eV25, eV26, eV27, eV28]
            clear eV0 eV1 eV2 eV3 eV4 eV5 eV6 eV7 eV8 eV9 eV10 eV11 eV12 eV13 eV14 eV15 eV16 eV17 eV18 eV19 eV20 eV21 eV22 eV23 eV24 eV25 eV26 eV27 eV28 hV0 hV1 hV2 hV3 hV4 hV5 hV6 hV7 hV8 hV9 hV10 hV11 hV12 hV13 hV14 hV15 hV16 hV17 hV18 hV19 hV20 hV21 hV22 hV23 hV24 hV25 hV26 hV27 hV28
            refine wpTill.done (by kernel_rfl) ?_
            have FU := FD.trans (G.mono fun k hk _ => hk)
            go_wp2_with fail
            go_roundw
            case rel =>
              refine ⟨1, by omega, by go_num, Lib.hid fun k hk => ?_, FU⟩
              obtain rfl : k = 0 := by omega
              rw [HG.out]
              exact ⟨⟨by omega, fun h => by omega⟩, by omega⟩
            case measure => first | (simp [intOf]; done) | (simp [intOf]; omega)
    · obtain rfl : j = axes.length := by omega
      have HN : b = true := by
        rw [← hb.out]
        refine decide_eq_true ⟨fun i hi => (HK.out i hi).1, fun x hx => ?_⟩
        obtain ⟨i, hi, rfl⟩ := List.mem_iff_getElem.1 hx
        rw [← getI_at hi]
        exact (HK.out i hi).2
      clear hb
      subst HN
      go_wp2_with fail
      go_ret
      exact ⟨rfl, F⟩
end Go.Proofs.YtlppcfeimpcbjaaGreat
