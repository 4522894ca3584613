import Derived.Test.YtlppcfeimpcbjaaGreatFpB
import Derived.Test.YtlppcfeimpcbjaaGreatFree2
set_option linter.unusedSimpArgs false
set_option linter.unusedVariables false

/- FoldAssoc: printed by gen_fpi.py. -/
namespace Go.Proofs.YtlppcfeimpcbjaaGreat
open Go.RowKit

set_option maxRecDepth 20000 in
set_option maxHeartbeats 64000000 in
theorem fassoc_walk {S T U : Nat → Prop} {ek el em : List RatL} (w : World) (d0 d1 d2 d3 : Int) (vk vl vm : Value) (L : Nat) (hd : ∀ d ∈ [d0, d1, d2, d3], -9223372036854775808 ≤ d ∧ d < 9223372036854775808) (hk : RS S w vk ek L) (hl : RS T w vl el L) (hm : RS U w vm em L) (hL : L ≤ 1048576) :
    Calls Tryz.prog 9 #[.agg #[.int .i64 d0, .int .i64 d1, .int .i64 d2, .int .i64 d3], vk, vl, vm] w fun e w' => e = .returned (.bool true) ∧ Fr (fun k => k < w.heap.size) w w' := by
  obtain ⟨A, c, rfl, _, _, lA⟩ := hk.sl.slice
  obtain ⟨B, d, rfl, _, _, lB⟩ := hl.sl.slice
  obtain ⟨C, f, rfl, _, _, lC⟩ := hm.sl.slice
  have TK := Lib.hid (Rm_lt hk.sl)
  have TL := Lib.hid (Rm_lt hl.sl)
  have TM := Lib.hid (Rm_lt hm.sl)
  have HK : Hold (fun u => Sl Rm (fun _ => True) u (.slice A ek.length c) ek) w := fun _ hu => hk.sl.any.keep' Rm_pos hu
  have HL : Hold (fun u => Sl Rm (fun _ => True) u (.slice B el.length d) el) w := fun _ hu => hl.sl.any.keep' Rm_pos hu
  have HM : Hold (fun u => Sl Rm (fun _ => True) u (.slice C em.length f) em) w := fun _ hu => hm.sl.any.keep' Rm_pos hu
  clear hk hl hm
  have F := (Fr.refl (fun k => k < w.heap.size) w).alloc (.cells #[.int .i64 d0, .int .i64 d1, .int .i64 d2, .int .i64 d3] 66)
  replace HK := HK.keep (F.mono fun k h _ => h)
  replace HL := HL.keep (F.mono fun k h _ => h)
  replace HM := HM.keep (F.mono fun k h _ => h)
  have hrow := heap_alloc_new w (.cells #[.int .i64 d0, .int .i64 d1, .int .i64 d2, .int .i64 d3] 66)
  have HD : Hold (fun u => u.heap[w.heap.size]? = some (.cells #[.int .i64 d0, .int .i64 d1, .int .i64 d2, .int .i64 d3] 66 (0, 0))) (w.alloc (.cells #[.int .i64 d0, .int .i64 d1, .int .i64 d2, .int .i64 d3] 66)) := fun u hu => hu.obj hrow (lt_of_block hrow)
  have g0 : (w.alloc (.cells #[.int .i64 d0, .int .i64 d1, .int .i64 d2, .int .i64 d3] 66)).cell? ⟨w.heap.size, 0, none⟩ = some (.int .i64 d0) := (cell_of_row _ _ 0 _ _ (0, 0) hrow).trans rfl
  have g1 : (w.alloc (.cells #[.int .i64 d0, .int .i64 d1, .int .i64 d2, .int .i64 d3] 66)).cell? ⟨w.heap.size, 1, none⟩ = some (.int .i64 d1) := (cell_of_row _ _ 1 _ _ (0, 0) hrow).trans rfl
  have g2 : (w.alloc (.cells #[.int .i64 d0, .int .i64 d1, .int .i64 d2, .int .i64 d3] 66)).cell? ⟨w.heap.size, 2, none⟩ = some (.int .i64 d2) := (cell_of_row _ _ 2 _ _ (0, 0) hrow).trans rfl
  have g3 : (w.alloc (.cells #[.int .i64 d0, .int .i64 d1, .int .i64 d2, .int .i64 d3] 66)).cell? ⟨w.heap.size, 3, none⟩ = some (.int .i64 d3) := (cell_of_row _ _ 3 _ _ (0, 0) hrow).trans rfl
  have lW : w.heap.size < (w.alloc (.cells #[.int .i64 d0, .int .i64 d1, .int .i64 d2, .int .i64 d3] 66)).heap.size := lt_of_block hrow
  have hd0 := hd d0 (by simp)
  have hd1 := hd d1 (by simp)
  have hd2 := hd d2 (by simp)
  have hd3 := hd d3 (by simp)
  clear hrow hd
  obtain ⟨b1, hb1⟩ : ∃ b, shortB ek = b := ⟨_, rfl⟩
  obtain ⟨b2, hb2⟩ : ∃ b, shortB el = b := ⟨_, rfl⟩
  obtain ⟨b3, hb3⟩ : ∃ b, shortB em = b := ⟨_, rfl⟩
  have HB1 := Lib.hid hb1
  have HB2 := Lib.hid hb2
  have HB3 := Lib.hid hb3
  clear hb1 hb2 hb3
  have KN : ∀ (V : World), Fr (fun k => k < w.heap.size) w V → Calls Tryz.prog 12 #[] V fun e u => e = .returned (.bool true) ∧ Fr (fun k => k < w.heap.size) w u := fun V hV => (known10_u V).mono fun e u h => by
    obtain ⟨_, rfl, hf, h⟩ := h
    obtain rfl := h.now
    exact ⟨rfl, fr_then hV hf⟩
  go_enter Tryz.func9, Tryz.ntmps9
  go_wp2_with fail
  generalize w.alloc (.cells #[.int .i64 d0, .int .i64 d1, .int .i64 d2, .int .i64 d3] 66) = W0 at F HK HL HM HD g0 g1 g2 g3 lW ⊢
  go_loop [9] (fun i => ∃ (j : Nat), j ≤ 4 ∧ i = .int .i64 j ∧ (0 < j → 1 ≤ d0 ∧ d0 ≤ 5) ∧ (1 < j → 1 ≤ d1 ∧ d1 ≤ 5) ∧ (2 < j → 1 ≤ d2 ∧ d2 ≤ 5) ∧ (3 < j → 1 ≤ d3 ∧ d3 ≤ 5)) (fun i => 4 - (intOf i).toNat)
  case atStart => exact ⟨0, by omega, rfl, fun h => by omega, fun h => by omega, fun h => by omega, fun h => by omega⟩
  case round =>
    obtain ⟨j, hj, rfl, e0, e1, e2, e3⟩ := hrel
    obtain rfl | rfl | rfl | rfl | rfl : j = 0 ∨ j = 1 ∨ j = 2 ∨ j = 3 ∨ j = 4 := by omega
    · by_cases h1 : d0 < 1
      · clear e0 e1 e2 e3
        go_wp2_with fail
        with_reducible refine (KN _ F).mono ?_
        rintro e V9 ⟨rfl, F9⟩
        go_wp2_with fail
        go_ret
        exact ⟨rfl, F9⟩
      by_cases h5 : 5 < d0
      · clear e0 e1 e2 e3
        go_wp2_with fail
        with_reducible refine (KN _ F).mono ?_
        rintro e V9 ⟨rfl, F9⟩
        go_wp2_with fail
        go_ret
        exact ⟨rfl, F9⟩
      have z0 : 1 ≤ d0 ∧ d0 ≤ 5 := ⟨by omega, by omega⟩
      clear e0 e1 e2 e3
      go_wp2_with fail
      go_round
      case rel => exact ⟨1, by omega, rfl, fun _ => z0, fun h => by omega, fun h => by omega, fun h => by omega⟩
      case measure => first | (simp [intOf]; done) | (simp [intOf]; omega)
    · by_cases h1 : d1 < 1
      · clear e0 e1 e2 e3
        go_wp2_with fail
        with_reducible refine (KN _ F).mono ?_
        rintro e V9 ⟨rfl, F9⟩
        go_wp2_with fail
        go_ret
        exact ⟨rfl, F9⟩
      by_cases h5 : 5 < d1
      · clear e0 e1 e2 e3
        go_wp2_with fail
        with_reducible refine (KN _ F).mono ?_
        rintro e V9 ⟨rfl, F9⟩
        go_wp2_with fail
        go_ret
        exact ⟨rfl, F9⟩
      have z0 := e0 (by omega)
      have z1 : 1 ≤ d1 ∧ d1 ≤ 5 := ⟨by omega, by omega⟩
      clear e0 e1 e2 e3
      go_wp2_with fail
      go_round
      case rel => exact ⟨2, by omega, rfl, fun _ => z0, fun _ => z1, fun h => by omega, fun h => by omega⟩
      case measure => first | (simp [intOf]; done) | (simp [intOf]; omega)
    · by_cases h1 : d2 < 1
      · clear e0 e1 e2 e3
        go_wp2_with fail
        with_reducible refine (KN _ F).mono ?_
        rintro e V9 ⟨rfl, F9⟩
        go_wp2_with fail
        go_ret
        exact ⟨rfl, F9⟩
      by_cases h5 : 5 < d2
      · clear e0 e1 e2 e3
        go_wp2_with fail
        with_reducible refine (KN _ F).mono ?_
        rintro e V9 ⟨rfl, F9⟩
        go_wp2_with fail
        go_ret
        exact ⟨rfl, F9⟩
      have z0 := e0 (by omega)
      have z1 := e1 (by omega)
      have z2 : 1 ≤ d2 ∧ d2 ≤ 5 := ⟨by omega, by omega⟩
      clear e0 e1 e2 e3
      go_wp2_with fail
      go_round
      case rel => exact ⟨3, by omega, rfl, fun _ => z0, fun _ => z1, fun _ => z2, fun h => by omega⟩
      case measure => first | (simp [intOf]; done) | (simp [intOf]; omega)
    · by_cases h1 : d3 < 1
      · clear e0 e1 e2 e3
        go_wp2_with fail
        with_reducible refine (KN _ F).mono ?_
        rintro e V9 ⟨rfl, F9⟩
        go_wp2_with fail
        go_ret
        exact ⟨rfl, F9⟩
      by_cases h5 : 5 < d3
      · clear e0 e1 e2 e3
        go_wp2_with fail
        with_reducible refine (KN _ F).mono ?_
        rintro e V9 ⟨rfl, F9⟩
        go_wp2_with fail
        go_ret
        exact ⟨rfl, F9⟩
      have z0 := e0 (by omega)
      have z1 := e1 (by omega)
      have z2 := e2 (by omega)
      have z3 : 1 ≤ d3 ∧ d3 ≤ 5 := ⟨by omega, by omega⟩
      clear e0 e1 e2 e3
      go_wp2_with fail
      go_round
      case rel => exact ⟨4, by omega, rfl, fun _ => z0, fun _ => z1, fun _ => z2, fun _ => z3⟩
      case measure => first | (simp [intOf]; done) | (simp [intOf]; omega)
    · have q0 := e0 (by omega)
      have q1 := e1 (by omega)
      have q2 := e2 (by omega)
      have q3 := e3 (by omega)
      clear e0 e1 e2 e3 g0 g1 g2 g3 hd0 hd1 hd2 hd3
      obtain ⟨m0, rfl⟩ : ∃ m : Nat, d0 = (m : Int) := ⟨d0.toNat, by omega⟩
      obtain ⟨m1, rfl⟩ : ∃ m : Nat, d1 = (m : Int) := ⟨d1.toNat, by omega⟩
      obtain ⟨m2, rfl⟩ : ∃ m : Nat, d2 = (m : Int) := ⟨d2.toNat, by omega⟩
      obtain ⟨m3, rfl⟩ : ∃ m : Nat, d3 = (m : Int) := ⟨d3.toNat, by omega⟩
      have P := Lib.hid (short_u HK.now HB1)
      go_wp2_with fail
      with_reducible refine P.out.mono ?_
      rintro e V7 ⟨v, rfl, hf, H⟩
      obtain rfl := H.now
      replace HK := HK.keep hf
      replace HL := HL.keep hf
      replace HM := HM.keep hf
      replace HD := HD.keep hf
      replace F := fr_then F hf
      clear P hf H
      cases b1 with
      | false =>
        have P := Lib.hid (known10_u V7)
        go_wp2_with fail
        with_reducible refine P.out.mono ?_
        rintro e V8 ⟨v, rfl, hf, H⟩
        obtain rfl := H.now
        replace HK := HK.keep hf
        replace HL := HL.keep hf
        replace HM := HM.keep hf
        replace HD := HD.keep hf
        replace F := fr_then F hf
        clear P hf H
        go_wp2_with fail
        go_ret
        exact ⟨rfl, F⟩
      | true =>
        have P := Lib.hid (short_u HL.now HB2)
        go_wp2_with fail
        with_reducible refine P.out.mono ?_
        rintro e V9 ⟨v, rfl, hf, H⟩
        obtain rfl := H.now
        replace HK := HK.keep hf
        replace HL := HL.keep hf
        replace HM := HM.keep hf
        replace HD := HD.keep hf
        replace F := fr_then F hf
        clear P hf H
        cases b2 with
        | false =>
          have P := Lib.hid (known10_u V9)
          go_wp2_with fail
          with_reducible refine P.out.mono ?_
          rintro e V10 ⟨v, rfl, hf, H⟩
          obtain rfl := H.now
          replace HK := HK.keep hf
          replace HL := HL.keep hf
          replace HM := HM.keep hf
          replace HD := HD.keep hf
          replace F := fr_then F hf
          clear P hf H
          go_wp2_with fail
          go_ret
          exact ⟨rfl, F⟩
        | true =>
          have P := Lib.hid (short_u HM.now HB3)
          go_wp2_with fail
          with_reducible refine P.out.mono ?_
          rintro e V11 ⟨v, rfl, hf, H⟩
          obtain rfl := H.now
          replace HK := HK.keep hf
          replace HL := HL.keep hf
          replace HM := HM.keep hf
          replace HD := HD.keep hf
          replace F := fr_then F hf
          clear P hf H
          cases b3 with
          | false =>
            have P := Lib.hid (known10_u V11)
            go_wp2_with fail
            with_reducible refine P.out.mono ?_
            rintro e V12 ⟨v, rfl, hf, H⟩
            obtain rfl := H.now
            replace HK := HK.keep hf
            replace HL := HL.keep hf
            replace HM := HM.keep hf
            replace HD := HD.keep hf
            replace F := fr_then F hf
            clear P hf H
            go_wp2_with fail
            go_ret
            exact ⟨rfl, F⟩
          | true =>
            have K1 := Lib.hid (kf_rot (m := m0) (n := m1) (by omega) (by omega) (by omega) (by omega) HB1.out TK.out)
            have K2 := Lib.hid (kf_rot (m := m1) (n := m2) (by omega) (by omega) (by omega) (by omega) HB2.out TL.out)
            have K3 := Lib.hid (kf_rot (m := m2) (n := m3) (by omega) (by omega) (by omega) (by omega) HB3.out TM.out)
            have K4 := Lib.hid (kf_rot (m := m1) (n := m2) (by omega) (by omega) (by omega) (by omega) HB3.out TM.out)
            have D01 : Hid (m0 ≤ 5 ∧ m1 ≤ 5) := Lib.hid (by omega)
            have D12 : Hid (m1 ≤ 5 ∧ m2 ≤ 5) := Lib.hid (by omega)
            have D23 : Hid (m2 ≤ 5 ∧ m3 ≤ 5) := Lib.hid (by omega)
            have D012 : Hid (m0 ≤ 5 ∧ m1 ≤ 5 ∧ m2 ≤ 5) := Lib.hid (by omega)
            have D123 : Hid (m1 ≤ 5 ∧ m2 ≤ 5 ∧ m3 ≤ 5) := Lib.hid (by omega)
            have D023 : Hid (m0 ≤ 5 ∧ m2 ≤ 5 ∧ m3 ≤ 5) := Lib.hid (by omega)
            have D013 : Hid (m0 ≤ 5 ∧ m1 ≤ 5 ∧ m3 ≤ 5) := Lib.hid (by omega)
            have LY : (rot el (m1 * m2)).length = m1 * m2 := rot_len _ _
            have LW2 : (rot em (m1 * m2)).length = m1 * m2 := rot_len _ _
            have KXY := Lib.hid (kf_mm (K := 176) K1.out K2.out (by omega) (by omega) (by have : m1 * (3 + 3 + 1) ≤ 5 * (3 + 3 + 1) := Nat.mul_le_mul_right _ (by omega); omega) (by decide))
            have KYZ := Lib.hid (kf_mm (K := 176) K2.out K3.out (by omega) (by omega) (by have : m2 * (3 + 3 + 1) ≤ 5 * (3 + 3 + 1) := Nat.mul_le_mul_right _ (by omega); omega) (by decide))
            have KXW := Lib.hid (kf_mm (K := 176) K1.out K4.out (by omega) (by omega) (by have : m1 * (3 + 3 + 1) ≤ 5 * (3 + 3 + 1) := Nat.mul_le_mul_right _ (by omega); omega) (by decide))
            have KS := Lib.hid (KF.zip (fun h g => lens_add' h g) K2.out K4.out (by decide) (by decide))
            have K1w := Lib.hid (K1.out.wide (N := 176) (by decide) (by decide))
            have K3w := Lib.hid (K3.out.wide (N := 176) (by decide) (by decide))
            have K1s := Lib.hid (K1.out.wide (N := 7) (by decide) (by decide))
            have KB := Lib.hid (kf_mm (K := 9000) KXY.out K3w.out (by omega) (by omega) (by have : m2 * (176 + 176 + 1) ≤ 5 * (176 + 176 + 1) := Nat.mul_le_mul_right _ (by omega); omega) (by decide))
            have KP := Lib.hid (KF.zip (fun h g => lens_add' h g) KXY.out KXW.out (by decide) (by decide))
            have HAS := Lib.hid (mm_assoc (rot ek (m0 * m1)) (rot el (m1 * m2)) (rot em (m2 * m3)) m0 m1 m2 m3).symm
            have HDI := Lib.hid (mm_dist (rot ek (m0 * m1)) (rot el (m1 * m2)) (rot em (m1 * m2)) m0 m1 m2 LY LW2)
            clear LY LW2
            have FB := Lib.hid KB.out.fit
            have FP := Lib.hid KP.out.fit
            have HMB := Lib.hid KB.out.may
            have HS := Lib.hid HB1.out
            go_wp2_with fail
            have DR := fun R => (Fr.refl R V11).drew
            replace HK := HK.keep (DR _)
            replace HL := HL.keep (DR _)
            replace HM := HM.keep (DR _)
            replace HD := HD.keep (DR _)
            replace F := F.drew
            clear DR
            refine wpTill.begin (fun _ => True) 21 (by kernel_rfl) ?_
            change wpTill _ _ _ _ _ _ 24 _ _ _
            refine wpTill.free2 (jj := 21) (m := 3) [(0, Fact.eq (.pointer (some ⟨w.heap.size, 0, none⟩))),
                  (1, Fact.eq (.int .i64 (m0 : Int))),
                  (2, Fact.eq (.pointer (some ⟨w.heap.size, 1, none⟩))),
                  (3, Fact.eq (.int .i64 (m1 : Int))),
                  (4, Fact.eq (.slice A ek.length c)),
                  (5, Fact.held (Agg (TV [(m0 : Int), (m1 : Int)] ((rot ek (m0 * m1)).map canR)))),
                  (6, Fact.eq (.pointer (some ⟨w.heap.size, 1, none⟩))),
                  (7, Fact.eq (.int .i64 (m1 : Int))),
                  (8, Fact.eq (.pointer (some ⟨w.heap.size, 2, none⟩))),
                  (9, Fact.eq (.int .i64 (m2 : Int))),
                  (10, Fact.eq (.slice B el.length d)),
                  (11, Fact.held (Agg (TV [(m1 : Int), (m2 : Int)] ((rot el (m1 * m2)).map canR)))),
                  (12, Fact.eq (.pointer (some ⟨w.heap.size, 2, none⟩))),
                  (13, Fact.eq (.int .i64 (m2 : Int))),
                  (14, Fact.eq (.pointer (some ⟨w.heap.size, 3, none⟩))),
                  (15, Fact.eq (.int .i64 (m3 : Int))),
                  (16, Fact.eq (.slice C em.length f)),
                  (17, Fact.held (Agg (TV [(m2 : Int), (m3 : Int)] ((rot em (m2 * m3)).map canR)))),
                  (18, Fact.mem (New2 V11.drew.heap.size 26 (.slice none 0 0) (.slice none 0 0)) New2.keep),
                  (19, Fact.mem (New2 V11.drew.heap.size 26 (.slice none 0 0) (.slice none 0 0)) New2.keep),
                  (20, Fact.mem (New2 V11.drew.heap.size 26 (.slice none 0 0) (.slice none 0 0)) New2.keep)] [] [0, 1, 0, 4, 0, 31, 0, 64, 0, 256, 0, 2047, 0, 4096, 0, 16384, 0, 131071, 0, 0, 0, 2097151, 4194303, 8388607] [] ?_ (by kernel_rfl) (by kernel_rfl) (by kernel_rfl) [(0, some 59), (1, some 60), (2, some 61), (3, some 62), (4, some 63), (5, some 64), (6, some 65), (7, some 66), (8, some 67), (9, some 68), (10, some 69), (11, some 70), (12, some 71), (13, some 72), (14, some 73), (15, some 74), (16, some 75), (17, some 76), (18, some 10), (19, some 11), (20, some 12)] (by kernel_rfl) ?hA1 ?hQ1 (fun _ _ => trivial) (by kernel_rfl) [18, 19, 20] (fun _ => .cells #[.slice none 0 0, .slice none 0 0] 26) ?hN1 ?hNG1 (by kernel_rfl) ?steps1 ?looses1 ?cont1
            case hQ1 => exact fun _ _ _ _ _ h => h
            case hA1 =>
              intro vs
              simp only [fillD, List.foldl_cons, List.foldl_nil, Act.put, List.setIfInBounds_toArray, List.set_cons_zero, List.set_cons_succ]
              exact rfl
            case steps1 =>
              refine ⟨?_, ?_, ?_, ?_, ?_, ?_, ?_, ?_, ?_, ?_, ?_, ?_, ?_, ?_, ?_, ?_, ?_, ?_, ?_, ?_, ?_, trivial⟩
              · rintro vs u ⟨hV0, hV1, hV2, hV3, hV4, hV5, hV6, hV7, hV8, hV9, hV10, hV11, hV12, hV13, hV14, hV15, hV16, hV17, hV18, hV19, hV20, -⟩ G
                exact stepAt.pure (v := .pointer (some ⟨w.heap.size, 0, none⟩)) rfl rfl (by go_simp) rfl
              · rintro vs u ⟨hV0, hV1, hV2, hV3, hV4, hV5, hV6, hV7, hV8, hV9, hV10, hV11, hV12, hV13, hV14, hV15, hV16, hV17, hV18, hV19, hV20, -⟩ G
                have o0 : u.cell? ⟨w.heap.size, 0, none⟩ = some (.int .i64 (m0 : Int)) := (cell_of_row u _ 0 _ _ (0, 0) (HD.at G)).trans rfl
                have eV0 : vs 0 = .pointer (some ⟨w.heap.size, 0, none⟩) := hV0 rfl
                exact stepAt.pure (v := .int .i64 (m0 : Int)) rfl rfl (by simp only [eV0]; go_simp) rfl
              · rintro vs u ⟨hV0, hV1, hV2, hV3, hV4, hV5, hV6, hV7, hV8, hV9, hV10, hV11, hV12, hV13, hV14, hV15, hV16, hV17, hV18, hV19, hV20, -⟩ G
                exact stepAt.pure (v := .pointer (some ⟨w.heap.size, 1, none⟩)) rfl rfl (by go_simp) rfl
              · rintro vs u ⟨hV0, hV1, hV2, hV3, hV4, hV5, hV6, hV7, hV8, hV9, hV10, hV11, hV12, hV13, hV14, hV15, hV16, hV17, hV18, hV19, hV20, -⟩ G
                have o0 : u.cell? ⟨w.heap.size, 1, none⟩ = some (.int .i64 (m1 : Int)) := (cell_of_row u _ 1 _ _ (0, 0) (HD.at G)).trans rfl
                have eV2 : vs 2 = .pointer (some ⟨w.heap.size, 1, none⟩) := hV2 rfl
                exact stepAt.pure (v := .int .i64 (m1 : Int)) rfl rfl (by simp only [eV2]; go_simp) rfl
              · rintro vs u ⟨hV0, hV1, hV2, hV3, hV4, hV5, hV6, hV7, hV8, hV9, hV10, hV11, hV12, hV13, hV14, hV15, hV16, hV17, hV18, hV19, hV20, -⟩ G
                exact stepAt.pure (v := .slice A ek.length c) rfl rfl (by go_simp) rfl
              · rintro vs u ⟨hV0, hV1, hV2, hV3, hV4, hV5, hV6, hV7, hV8, hV9, hV10, hV11, hV12, hV13, hV14, hV15, hV16, hV17, hV18, hV19, hV20, -⟩ G
                refine stepAt.call (f := 37) (args := #[vs 1, vs 3, vs 4]) rfl rfl (by go_simp) ?_
                have eV1 : vs 1 = .int .i64 (m0 : Int) := hV1 rfl
                have eV3 : vs 3 = .int .i64 (m1 : Int) := hV3 rfl
                have eV4 : vs 4 = .slice A ek.length c := hV4 rfl
                rw [eV1, eV3, eV4]
                exact matrix_u (HK.at G) D01 HB1
              · rintro vs u ⟨hV0, hV1, hV2, hV3, hV4, hV5, hV6, hV7, hV8, hV9, hV10, hV11, hV12, hV13, hV14, hV15, hV16, hV17, hV18, hV19, hV20, -⟩ G
                exact stepAt.pure (v := .pointer (some ⟨w.heap.size, 1, none⟩)) rfl rfl (by go_simp) rfl
              · rintro vs u ⟨hV0, hV1, hV2, hV3, hV4, hV5, hV6, hV7, hV8, hV9, hV10, hV11, hV12, hV13, hV14, hV15, hV16, hV17, hV18, hV19, hV20, -⟩ G
                have o0 : u.cell? ⟨w.heap.size, 1, none⟩ = some (.int .i64 (m1 : Int)) := (cell_of_row u _ 1 _ _ (0, 0) (HD.at G)).trans rfl
                have eV6 : vs 6 = .pointer (some ⟨w.heap.size, 1, none⟩) := hV6 rfl
                exact stepAt.pure (v := .int .i64 (m1 : Int)) rfl rfl (by simp only [eV6]; go_simp) rfl
              · rintro vs u ⟨hV0, hV1, hV2, hV3, hV4, hV5, hV6, hV7, hV8, hV9, hV10, hV11, hV12, hV13, hV14, hV15, hV16, hV17, hV18, hV19, hV20, -⟩ G
                exact stepAt.pure (v := .pointer (some ⟨w.heap.size, 2, none⟩)) rfl rfl (by go_simp) rfl
              · rintro vs u ⟨hV0, hV1, hV2, hV3, hV4, hV5, hV6, hV7, hV8, hV9, hV10, hV11, hV12, hV13, hV14, hV15, hV16, hV17, hV18, hV19, hV20, -⟩ G
                have o0 : u.cell? ⟨w.heap.size, 2, none⟩ = some (.int .i64 (m2 : Int)) := (cell_of_row u _ 2 _ _ (0, 0) (HD.at G)).trans rfl
                have eV8 : vs 8 = .pointer (some ⟨w.heap.size, 2, none⟩) := hV8 rfl
                exact stepAt.pure (v := .int .i64 (m2 : Int)) rfl rfl (by simp only [eV8]; go_simp) rfl
              · rintro vs u ⟨hV0, hV1, hV2, hV3, hV4, hV5, hV6, hV7, hV8, hV9, hV10, hV11, hV12, hV13, hV14, hV15, hV16, hV17, hV18, hV19, hV20, -⟩ G
                exact stepAt.pure (v := .slice B el.length d) rfl rfl (by go_simp) rfl
              · rintro vs u ⟨hV0, hV1, hV2, hV3, hV4, hV5, hV6, hV7, hV8, hV9, hV10, hV11, hV12, hV13, hV14, hV15, hV16, hV17, hV18, hV19, hV20, -⟩ G
                refine stepAt.call (f := 37) (args := #[vs 7, vs 9, vs 10]) rfl rfl (by go_simp) ?_
                have eV7 : vs 7 = .int .i64 (m1 : Int) := hV7 rfl
                have eV9 : vs 9 = .int .i64 (m2 : Int) := hV9 rfl
                have eV10 : vs 10 = .slice B el.length d := hV10 rfl
                rw [eV7, eV9, eV10]
                exact matrix_u (HL.at G) D12 HB2
              · rintro vs u ⟨hV0, hV1, hV2, hV3, hV4, hV5, hV6, hV7, hV8, hV9, hV10, hV11, hV12, hV13, hV14, hV15, hV16, hV17, hV18, hV19, hV20, -⟩ G
                exact stepAt.pure (v := .pointer (some ⟨w.heap.size, 2, none⟩)) rfl rfl (by go_simp) rfl
              · rintro vs u ⟨hV0, hV1, hV2, hV3, hV4, hV5, hV6, hV7, hV8, hV9, hV10, hV11, hV12, hV13, hV14, hV15, hV16, hV17, hV18, hV19, hV20, -⟩ G
                have o0 : u.cell? ⟨w.heap.size, 2, none⟩ = some (.int .i64 (m2 : Int)) := (cell_of_row u _ 2 _ _ (0, 0) (HD.at G)).trans rfl
                have eV12 : vs 12 = .pointer (some ⟨w.heap.size, 2, none⟩) := hV12 rfl
                exact stepAt.pure (v := .int .i64 (m2 : Int)) rfl rfl (by simp only [eV12]; go_simp) rfl
              · rintro vs u ⟨hV0, hV1, hV2, hV3, hV4, hV5, hV6, hV7, hV8, hV9, hV10, hV11, hV12, hV13, hV14, hV15, hV16, hV17, hV18, hV19, hV20, -⟩ G
                exact stepAt.pure (v := .pointer (some ⟨w.heap.size, 3, none⟩)) rfl rfl (by go_simp) rfl
              · rintro vs u ⟨hV0, hV1, hV2, hV3, hV4, hV5, hV6, hV7, hV8, hV9, hV10, hV11, hV12, hV13, hV14, hV15, hV16, hV17, hV18, hV19, hV20, -⟩ G
                have o0 : u.cell? ⟨w.heap.size, 3, none⟩ = some (.int .i64 (m3 : Int)) := (cell_of_row u _ 3 _ _ (0, 0) (HD.at G)).trans rfl
                have eV14 : vs 14 = .pointer (some ⟨w.heap.size, 3, none⟩) := hV14 rfl
                exact stepAt.pure (v := .int .i64 (m3 : Int)) rfl rfl (by simp only [eV14]; go_simp) rfl
              · rintro vs u ⟨hV0, hV1, hV2, hV3, hV4, hV5, hV6, hV7, hV8, hV9, hV10, hV11, hV12, hV13, hV14, hV15, hV16, hV17, hV18, hV19, hV20, -⟩ G
                exact stepAt.pure (v := .slice C em.length f) rfl rfl (by go_simp) rfl
              · rintro vs u ⟨hV0, hV1, hV2, hV3, hV4, hV5, hV6, hV7, hV8, hV9, hV10, hV11, hV12, hV13, hV14, hV15, hV16, hV17, hV18, hV19, hV20, -⟩ G
                refine stepAt.call (f := 37) (args := #[vs 13, vs 15, vs 16]) rfl rfl (by go_simp) ?_
                have eV13 : vs 13 = .int .i64 (m2 : Int) := hV13 rfl
                have eV15 : vs 15 = .int .i64 (m3 : Int) := hV15 rfl
                have eV16 : vs 16 = .slice C em.length f := hV16 rfl
                rw [eV13, eV15, eV16]
                exact matrix_u (HM.at G) D23 HB3
              · rintro vs u ⟨hV0, hV1, hV2, hV3, hV4, hV5, hV6, hV7, hV8, hV9, hV10, hV11, hV12, hV13, hV14, hV15, hV16, hV17, hV18, hV19, hV20, -⟩ G
                exact stepAt.value (v := .pointer (some ⟨u.heap.size, 0, none⟩)) (u := u.alloc (.cells #[.slice none 0 0, .slice none 0 0] 26)) rfl rfl (by go_simp) ((Fr.refl _ _).alloc _) ⟨_, rfl, G.size, Box2.new _ _ _ _⟩
              · rintro vs u ⟨hV0, hV1, hV2, hV3, hV4, hV5, hV6, hV7, hV8, hV9, hV10, hV11, hV12, hV13, hV14, hV15, hV16, hV17, hV18, hV19, hV20, -⟩ G
                exact stepAt.value (v := .pointer (some ⟨u.heap.size, 0, none⟩)) (u := u.alloc (.cells #[.slice none 0 0, .slice none 0 0] 26)) rfl rfl (by go_simp) ((Fr.refl _ _).alloc _) ⟨_, rfl, G.size, Box2.new _ _ _ _⟩
              · rintro vs u ⟨hV0, hV1, hV2, hV3, hV4, hV5, hV6, hV7, hV8, hV9, hV10, hV11, hV12, hV13, hV14, hV15, hV16, hV17, hV18, hV19, hV20, -⟩ G
                exact stepAt.value (v := .pointer (some ⟨u.heap.size, 0, none⟩)) (u := u.alloc (.cells #[.slice none 0 0, .slice none 0 0] 26)) rfl rfl (by go_simp) ((Fr.refl _ _).alloc _) ⟨_, rfl, G.size, Box2.new _ _ _ _⟩
            case looses1 =>
              exact trivial
            case hN1 =>
              intro i hi
              simp only [List.mem_cons, List.not_mem_nil, or_false] at hi
              rcases hi with rfl | rfl | rfl <;> exact ⟨_, rfl, rfl, fun a u => by go_simp⟩
            case hNG1 => exact ⟨fun h => absurd h (by decide), fun h => absurd h (by decide), fun h => absurd h (by decide), fun h => absurd h (by decide), fun h => absurd h (by decide), fun h => absurd h (by decide), fun h => absurd h (by decide), fun h => absurd h (by decide), fun h => absurd h (by decide), fun h => absurd h (by decide), fun h => absurd h (by decide), fun h => absurd h (by decide), fun h => absurd h (by decide), fun h => absurd h (by decide), fun h => absurd h (by decide), fun h => absurd h (by decide), fun h => absurd h (by decide), fun h => absurd h (by decide), fun _ vs w G => ⟨_, rfl, G.size, Box2.new _ _ _ _⟩, fun _ vs w G => ⟨_, rfl, G.size, Box2.new _ _ _ _⟩, fun _ vs w G => ⟨_, rfl, G.size, Box2.new _ _ _ _⟩, trivial⟩
            rintro vs u ⟨hV0, hV1, hV2, hV3, hV4, hV5, hV6, hV7, hV8, hV9, hV10, hV11, hV12, hV13, hV14, hV15, hV16, hV17, hV18, hV19, hV20, -⟩ hap G
            have eV0 : vs 0 = .pointer (some ⟨w.heap.size, 0, none⟩) := hV0
            have eV1 : vs 1 = .int .i64 (m0 : Int) := hV1
            have eV2 : vs 2 = .pointer (some ⟨w.heap.size, 1, none⟩) := hV2
            have eV3 : vs 3 = .int .i64 (m1 : Int) := hV3
            have eV4 : vs 4 = .slice A ek.length c := hV4
            replace hV5 : Hold (fun u' => (Agg (TV [(m0 : Int), (m1 : Int)] ((rot ek (m0 * m1)).map canR))) u' (vs 5)) u := hV5
            obtain ⟨A8_5, n8_5, c8_5, B8_5, m8_5, k8_5, eV5, -⟩ := hV5.now
            rw [eV5] at hV5
            have eV6 : vs 6 = .pointer (some ⟨w.heap.size, 1, none⟩) := hV6
            have eV7 : vs 7 = .int .i64 (m1 : Int) := hV7
            have eV8 : vs 8 = .pointer (some ⟨w.heap.size, 2, none⟩) := hV8
            have eV9 : vs 9 = .int .i64 (m2 : Int) := hV9
            have eV10 : vs 10 = .slice B el.length d := hV10
            replace hV11 : Hold (fun u' => (Agg (TV [(m1 : Int), (m2 : Int)] ((rot el (m1 * m2)).map canR))) u' (vs 11)) u := hV11
            obtain ⟨A8_11, n8_11, c8_11, B8_11, m8_11, k8_11, eV11, -⟩ := hV11.now
            rw [eV11] at hV11
            have eV12 : vs 12 = .pointer (some ⟨w.heap.size, 2, none⟩) := hV12
            have eV13 : vs 13 = .int .i64 (m2 : Int) := hV13
            have eV14 : vs 14 = .pointer (some ⟨w.heap.size, 3, none⟩) := hV14
            have eV15 : vs 15 = .int .i64 (m3 : Int) := hV15
            have eV16 : vs 16 = .slice C em.length f := hV16
            replace hV17 : Hold (fun u' => (Agg (TV [(m2 : Int), (m3 : Int)] ((rot em (m2 * m3)).map canR))) u' (vs 17)) u := hV17
            obtain ⟨A8_17, n8_17, c8_17, B8_17, m8_17, k8_17, eV17, -⟩ := hV17.now
            rw [eV17] at hV17
            obtain ⟨b8_18, eV18, l8_18, y8_18⟩ := hV18
            replace eV18 : vs 18 = _ := eV18
            obtain ⟨b8_19, eV19, l8_19, y8_19⟩ := hV19
            replace eV19 : vs 19 = _ := eV19
            obtain ⟨b8_20, eV20, l8_20, y8_20⟩ := hV20
            replace eV20 : vs 20 = _ := eV20
            have ne18_19 := hap.2 18 (by decide) 19 (by decide) (by decide) (List.contains_iff_mem.1 (by kernel_rfl)) (List.contains_iff_mem.1 (by kernel_rfl))
            rw [eV18, eV19] at ne18_19
            have ne18_20 := hap.2 18 (by decide) 20 (by decide) (by decide) (List.contains_iff_mem.1 (by kernel_rfl)) (List.contains_iff_mem.1 (by kernel_rfl))
            rw [eV18, eV20] at ne18_20
            have ne19_20 := hap.2 19 (by decide) 20 (by decide) (by decide) (List.contains_iff_mem.1 (by kernel_rfl)) (List.contains_iff_mem.1 (by kernel_rfl))
            rw [eV19, eV20] at ne19_20
            clear hap
            simp only [eV0, eV1, eV2, eV3, eV4, eV5, eV6, eV7, eV8, eV9, eV10, eV11, eV12, eV13, eV14, eV15, eV16, eV17, eV18, eV19, eV20]
            clear eV0 eV1 eV2 eV3 eV4 eV5 eV6 eV7 eV8 eV9 eV10 eV11 eV12 eV13 eV14 eV15 eV16 eV17 eV18 eV19 eV20 hV0 hV1 hV2 hV3 hV4 hV6 hV7 hV8 hV9 hV10 hV12 hV13 hV14 hV15 hV16
            have nb18_19 : b8_18 ≠ b8_19 := fun e => ne18_19 (by rw [e])
            have nb18_20 : b8_18 ≠ b8_20 := fun e => ne18_20 (by rw [e])
            have nb19_20 : b8_19 ≠ b8_20 := fun e => ne19_20 (by rw [e])
            clear ne18_19 ne18_20 ne19_20
            have T8_5 : Hold (fun u' => (TV [(m0 : Int), (m1 : Int)] ((rot ek (m0 * m1)).map canR)) u' (.slice A8_5 n8_5 c8_5) (.slice B8_5 m8_5 k8_5)) u := hV5.mono fun _ h => h.out
            clear hV5
            have T8_11 : Hold (fun u' => (TV [(m1 : Int), (m2 : Int)] ((rot el (m1 * m2)).map canR)) u' (.slice A8_11 n8_11 c8_11) (.slice B8_11 m8_11 k8_11)) u := hV11.mono fun _ h => h.out
            clear hV11
            have T8_17 : Hold (fun u' => (TV [(m2 : Int), (m3 : Int)] ((rot em (m2 * m3)).map canR)) u' (.slice A8_17 n8_17 c8_17) (.slice B8_17 m8_17 k8_17)) u := hV17.mono fun _ h => h.out
            clear hV17
            have g0 := y8_18.free 0
            have g1 := y8_18.free 1
            have g2 := y8_18.c0
            have g3 := y8_18.c1
            refine wpTill.next 21 rfl (by kernel_rfl) (by rfl) (fun K hK => ?_)
            go_simp
            refine hK _ _ (no_wait (by kernel_rfl)) ?_
            clear hK K
            have F9 := fr_put2 u b8_18 (.slice A8_5 n8_5 c8_5) (.slice B8_5 m8_5 k8_5)
            replace G := G.comp F9 (R := fun k => k < V11.drew.heap.size) fun k _ hk => ⟨hk, by omega⟩
            have z8_0 := y8_18.set2 (.slice A8_5 n8_5 c8_5) (.slice B8_5 m8_5 k8_5)
            replace T8_5 := (T8_5.now.fill (.slice A8_5 n8_5 c8_5) (.slice B8_5 m8_5 k8_5) y8_18).hold
            replace T8_11 := (T8_11.now.fill (.slice A8_5 n8_5 c8_5) (.slice B8_5 m8_5 k8_5) y8_18).hold
            replace T8_17 := (T8_17.now.fill (.slice A8_5 n8_5 c8_5) (.slice B8_5 m8_5 k8_5) y8_18).hold
            replace y8_19 := y8_19.fr F9 (fun e => nb18_19 e.symm)
            replace y8_20 := y8_20.fr F9 (fun e => nb18_20 e.symm)
            clear g0 g1 g2 g3 F9 y8_18
            generalize (u.setCell ⟨b8_18, 0, none⟩ (.slice A8_5 n8_5 c8_5)).setCell ⟨b8_18, 1, none⟩ (.slice B8_5 m8_5 k8_5) = U8_0 at z8_0 G T8_5 T8_11 T8_17 y8_19 y8_20 ⊢
            have g0 := y8_19.free 0
            have g1 := y8_19.free 1
            have g2 := y8_19.c0
            have g3 := y8_19.c1
            refine wpTill.next 22 rfl (by kernel_rfl) (by rfl) (fun K hK => ?_)
            go_simp
            refine hK _ _ (no_wait (by kernel_rfl)) ?_
            clear hK K
            have F9 := fr_put2 U8_0 b8_19 (.slice A8_11 n8_11 c8_11) (.slice B8_11 m8_11 k8_11)
            replace G := G.comp F9 (R := fun k => k < V11.drew.heap.size) fun k _ hk => ⟨hk, by omega⟩
            have z8_1 := y8_19.set2 (.slice A8_11 n8_11 c8_11) (.slice B8_11 m8_11 k8_11)
            replace T8_5 := (T8_5.now.fill (.slice A8_11 n8_11 c8_11) (.slice B8_11 m8_11 k8_11) y8_19).hold
            replace T8_11 := (T8_11.now.fill (.slice A8_11 n8_11 c8_11) (.slice B8_11 m8_11 k8_11) y8_19).hold
            replace T8_17 := (T8_17.now.fill (.slice A8_11 n8_11 c8_11) (.slice B8_11 m8_11 k8_11) y8_19).hold
            replace y8_20 := y8_20.fr F9 (fun e => nb19_20 e.symm)
            replace z8_0 := z8_0.fr F9 nb18_19
            clear g0 g1 g2 g3 F9 y8_19
            generalize (U8_0.setCell ⟨b8_19, 0, none⟩ (.slice A8_11 n8_11 c8_11)).setCell ⟨b8_19, 1, none⟩ (.slice B8_11 m8_11 k8_11) = U8_1 at z8_1 G T8_5 T8_11 T8_17 y8_20 z8_0 ⊢
            have g0 := y8_20.free 0
            have g1 := y8_20.free 1
            have g2 := y8_20.c0
            have g3 := y8_20.c1
            refine wpTill.next 23 rfl (by kernel_rfl) (by rfl) (fun K hK => ?_)
            go_simp
            refine hK _ _ (no_wait (by kernel_rfl)) ?_
            clear hK K
            refine wpTill.done (by kernel_rfl) ?_
            have F9 := fr_put2 U8_1 b8_20 (.slice A8_17 n8_17 c8_17) (.slice B8_17 m8_17 k8_17)
            replace G := G.comp F9 (R := fun k => k < V11.drew.heap.size) fun k _ hk => ⟨hk, by omega⟩
            have z8_2 := y8_20.set2 (.slice A8_17 n8_17 c8_17) (.slice B8_17 m8_17 k8_17)
            replace T8_5 := (T8_5.now.fill (.slice A8_17 n8_17 c8_17) (.slice B8_17 m8_17 k8_17) y8_20).hold
            replace T8_11 := (T8_11.now.fill (.slice A8_17 n8_17 c8_17) (.slice B8_17 m8_17 k8_17) y8_20).hold
            replace T8_17 := (T8_17.now.fill (.slice A8_17 n8_17 c8_17) (.slice B8_17 m8_17 k8_17) y8_20).hold
            replace z8_0 := z8_0.fr F9 nb18_20
            replace z8_1 := z8_1.fr F9 nb19_20
            clear g0 g1 g2 g3 F9 y8_20
            generalize (U8_1.setCell ⟨b8_20, 0, none⟩ (.slice A8_17 n8_17 c8_17)).setCell ⟨b8_20, 1, none⟩ (.slice B8_17 m8_17 k8_17) = U8 at z8_2 G T8_5 T8_11 T8_17 z8_0 z8_1 ⊢
            replace HK := HK.keep G
            replace HL := HL.keep G
            replace HM := HM.keep G
            replace HD := HD.keep G
            replace F := fr_then F G
            clear G l8_18 l8_19 l8_20
            have r1 : U8.cell? ⟨w.heap.size, 1, none⟩ = some (.int .i64 (m1 : Int)) := (cell_of_row _ _ 1 _ _ (0, 0) HD.now).trans rfl
            have r2 : U8.cell? ⟨w.heap.size, 2, none⟩ = some (.int .i64 (m2 : Int)) := (cell_of_row _ _ 2 _ _ (0, 0) HD.now).trans rfl
            have P := Lib.hid (matrix_u HM.now D12 HB3)
            go_wp2_with fail
            clear r1 r2
            with_reducible refine P.out.mono ?_
            rintro e W13 ⟨v, rfl, hf, H⟩
            obtain ⟨A13, n13, c13, B13, m13, k13, rfl, -⟩ := H.now
            have al := fun R => (Fr.refl R W13).alloc (.cells #[.slice A13 n13 c13, .slice B13 m13 k13] 26)
            replace z8_0 := z8_0.keep hf
            replace z8_1 := z8_1.keep hf
            replace z8_2 := z8_2.keep hf
            replace T8_5 := T8_5.keep hf
            replace T8_11 := T8_11.keep hf
            replace T8_17 := T8_17.keep hf
            replace HK := HK.keep hf
            replace HL := HL.keep hf
            replace HM := HM.keep hf
            replace HD := HD.keep hf
            replace F := fr_then F hf
            replace z8_0 := z8_0.keep (al _)
            replace z8_1 := z8_1.keep (al _)
            replace z8_2 := z8_2.keep (al _)
            replace T8_5 := T8_5.keep (al _)
            replace T8_11 := T8_11.keep (al _)
            replace T8_17 := T8_17.keep (al _)
            replace HK := HK.keep (al _)
            replace HL := HL.keep (al _)
            replace HM := HM.keep (al _)
            replace HD := HD.keep (al _)
            replace F := fr_then F (al _)
            have z13 := Box2.new W13 26 (.slice A13 n13 c13) (.slice B13 m13 k13)
            have H13 : Hold (fun u => (TV [(m1 : Int), (m2 : Int)] ((rot em (m1 * m2)).map canR)) u (.slice A13 n13 c13) (.slice B13 m13 k13)) (W13.alloc (.cells #[.slice A13 n13 c13, .slice B13 m13 k13] 26)) := (H.mono fun _ h => h.out).keep (al _)
            clear P hf H al
            have P := Lib.hid (mm_k (K := 400) T8_5.now T8_11.now K1 K2 D012 (Lib.hid rfl) (Lib.hid (by decide)))
            have pp100 := z8_0.c0
            have pp101 := z8_0.c1
            have pp110 := z8_1.c0
            have pp111 := z8_1.c1
            go_wp2_with fail
            clear pp100 pp101 pp110 pp111
            generalize W13.alloc (.cells #[.slice A13 n13 c13, .slice B13 m13 k13] 26) = U13 at *
            generalize W13.heap.size = b13 at *
            with_reducible refine P.out.mono ?_
            rintro e W14 ⟨v, rfl, hf, H⟩
            obtain ⟨A14, n14, c14, B14, m14, k14, rfl, -⟩ := H.now
            have al := fun R => (Fr.refl R W14).alloc (.cells #[.slice A14 n14 c14, .slice B14 m14 k14] 26)
            replace z8_0 := z8_0.keep hf
            replace z8_1 := z8_1.keep hf
            replace z8_2 := z8_2.keep hf
            replace z13 := z13.keep hf
            replace T8_5 := T8_5.keep hf
            replace T8_11 := T8_11.keep hf
            replace T8_17 := T8_17.keep hf
            replace H13 := H13.keep hf
            replace HK := HK.keep hf
            replace HL := HL.keep hf
            replace HM := HM.keep hf
            replace HD := HD.keep hf
            replace F := fr_then F hf
            replace z8_0 := z8_0.keep (al _)
            replace z8_1 := z8_1.keep (al _)
            replace z8_2 := z8_2.keep (al _)
            replace z13 := z13.keep (al _)
            replace T8_5 := T8_5.keep (al _)
            replace T8_11 := T8_11.keep (al _)
            replace T8_17 := T8_17.keep (al _)
            replace H13 := H13.keep (al _)
            replace HK := HK.keep (al _)
            replace HL := HL.keep (al _)
            replace HM := HM.keep (al _)
            replace HD := HD.keep (al _)
            replace F := fr_then F (al _)
            have z14 := Box2.new W14 26 (.slice A14 n14 c14) (.slice B14 m14 k14)
            have H14 : Hold (fun u => TC 0 [(m0 : Int), (m2 : Int)] ((mmL (rot ek (m0 * m1)) (rot el (m1 * m2)) m0 m1 m2).map canR) u (.slice A14 n14 c14) (.slice B14 m14 k14)) (W14.alloc (.cells #[.slice A14 n14 c14, .slice B14 m14 k14] 26)) := (H.mono fun _ h => h.out).keep (al _)
            clear P hf H al
            have P := Lib.hid (mm_k (K := 9000) (H14.now.2 rfl) T8_17.now KXY K3w D023 (Lib.hid rfl) (Lib.hid (by decide)))
            have pp140 := z14.c0
            have pp141 := z14.c1
            have pp120 := z8_2.c0
            have pp121 := z8_2.c1
            go_wp2_with fail
            clear pp140 pp141 pp120 pp121
            generalize W14.alloc (.cells #[.slice A14 n14 c14, .slice B14 m14 k14] 26) = U14 at *
            generalize W14.heap.size = b14 at *
            with_reducible refine P.out.mono ?_
            rintro e W16 ⟨v, rfl, hf, H⟩
            obtain ⟨A16, n16, c16, B16, m16, k16, rfl, -⟩ := H.now
            have al := fun R => (Fr.refl R W16).alloc (.cells #[.slice A16 n16 c16, .slice B16 m16 k16] 26)
            replace z8_0 := z8_0.keep hf
            replace z8_1 := z8_1.keep hf
            replace z8_2 := z8_2.keep hf
            replace z13 := z13.keep hf
            replace z14 := z14.keep hf
            replace T8_5 := T8_5.keep hf
            replace T8_11 := T8_11.keep hf
            replace T8_17 := T8_17.keep hf
            replace H13 := H13.keep hf
            replace H14 := H14.keep hf
            replace HK := HK.keep hf
            replace HL := HL.keep hf
            replace HM := HM.keep hf
            replace HD := HD.keep hf
            replace F := fr_then F hf
            replace z8_0 := z8_0.keep (al _)
            replace z8_1 := z8_1.keep (al _)
            replace z8_2 := z8_2.keep (al _)
            replace z13 := z13.keep (al _)
            replace z14 := z14.keep (al _)
            replace T8_5 := T8_5.keep (al _)
            replace T8_11 := T8_11.keep (al _)
            replace T8_17 := T8_17.keep (al _)
            replace H13 := H13.keep (al _)
            replace H14 := H14.keep (al _)
            replace HK := HK.keep (al _)
            replace HL := HL.keep (al _)
            replace HM := HM.keep (al _)
            replace HD := HD.keep (al _)
            replace F := fr_then F (al _)
            have z16 := Box2.new W16 26 (.slice A16 n16 c16) (.slice B16 m16 k16)
            have H16 : Hold (fun u => TC 0 [(m0 : Int), (m3 : Int)] ((mmL (mmL (rot ek (m0 * m1)) (rot el (m1 * m2)) m0 m1 m2) (rot em (m2 * m3)) m0 m2 m3).map canR) u (.slice A16 n16 c16) (.slice B16 m16 k16)) (W16.alloc (.cells #[.slice A16 n16 c16, .slice B16 m16 k16] 26)) := (H.mono fun _ h => h.out).keep (al _)
            clear P hf H al
            have P := Lib.hid (mm_k (K := 400) T8_11.now T8_17.now K2 K3 D123 (Lib.hid rfl) (Lib.hid (by decide)))
            have pp110 := z8_1.c0
            have pp111 := z8_1.c1
            have pp120 := z8_2.c0
            have pp121 := z8_2.c1
            go_wp2_with fail
            clear pp110 pp111 pp120 pp121
            generalize W16.alloc (.cells #[.slice A16 n16 c16, .slice B16 m16 k16] 26) = U16 at *
            generalize W16.heap.size = b16 at *
            with_reducible refine P.out.mono ?_
            rintro e W18 ⟨v, rfl, hf, H⟩
            obtain ⟨A18, n18, c18, B18, m18, k18, rfl, -⟩ := H.now
            have al := fun R => (Fr.refl R W18).alloc (.cells #[.slice A18 n18 c18, .slice B18 m18 k18] 26)
            replace z8_0 := z8_0.keep hf
            replace z8_1 := z8_1.keep hf
            replace z8_2 := z8_2.keep hf
            replace z13 := z13.keep hf
            replace z14 := z14.keep hf
            replace z16 := z16.keep hf
            replace T8_5 := T8_5.keep hf
            replace T8_11 := T8_11.keep hf
            replace T8_17 := T8_17.keep hf
            replace H13 := H13.keep hf
            replace H14 := H14.keep hf
            replace H16 := H16.keep hf
            replace HK := HK.keep hf
            replace HL := HL.keep hf
            replace HM := HM.keep hf
            replace HD := HD.keep hf
            replace F := fr_then F hf
            replace z8_0 := z8_0.keep (al _)
            replace z8_1 := z8_1.keep (al _)
            replace z8_2 := z8_2.keep (al _)
            replace z13 := z13.keep (al _)
            replace z14 := z14.keep (al _)
            replace z16 := z16.keep (al _)
            replace T8_5 := T8_5.keep (al _)
            replace T8_11 := T8_11.keep (al _)
            replace T8_17 := T8_17.keep (al _)
            replace H13 := H13.keep (al _)
            replace H14 := H14.keep (al _)
            replace H16 := H16.keep (al _)
            replace HK := HK.keep (al _)
            replace HL := HL.keep (al _)
            replace HM := HM.keep (al _)
            replace HD := HD.keep (al _)
            replace F := fr_then F (al _)
            have z18 := Box2.new W18 26 (.slice A18 n18 c18) (.slice B18 m18 k18)
            have H18 : Hold (fun u => TC 0 [(m1 : Int), (m3 : Int)] ((mmL (rot el (m1 * m2)) (rot em (m2 * m3)) m1 m2 m3).map canR) u (.slice A18 n18 c18) (.slice B18 m18 k18)) (W18.alloc (.cells #[.slice A18 n18 c18, .slice B18 m18 k18] 26)) := (H.mono fun _ h => h.out).keep (al _)
            clear P hf H al
            have P := Lib.hid (mm_k (K := 9000) T8_5.now (H18.now.2 rfl) K1w KYZ D013 HAS (Lib.hid (by decide)))
            have pp100 := z8_0.c0
            have pp101 := z8_0.c1
            have pp180 := z18.c0
            have pp181 := z18.c1
            go_wp2_with fail
            clear pp100 pp101 pp180 pp181
            generalize W18.alloc (.cells #[.slice A18 n18 c18, .slice B18 m18 k18] 26) = U18 at *
            generalize W18.heap.size = b18 at *
            with_reducible refine P.out.mono ?_
            rintro e W20 ⟨v, rfl, hf, H⟩
            obtain ⟨A20, n20, c20, B20, m20, k20, rfl, -⟩ := H.now
            have al := fun R => (Fr.refl R W20).alloc (.cells #[.slice A20 n20 c20, .slice B20 m20 k20] 26)
            replace z8_0 := z8_0.keep hf
            replace z8_1 := z8_1.keep hf
            replace z8_2 := z8_2.keep hf
            replace z13 := z13.keep hf
            replace z14 := z14.keep hf
            replace z16 := z16.keep hf
            replace z18 := z18.keep hf
            replace T8_5 := T8_5.keep hf
            replace T8_11 := T8_11.keep hf
            replace T8_17 := T8_17.keep hf
            replace H13 := H13.keep hf
            replace H14 := H14.keep hf
            replace H16 := H16.keep hf
            replace H18 := H18.keep hf
            replace HK := HK.keep hf
            replace HL := HL.keep hf
            replace HM := HM.keep hf
            replace HD := HD.keep hf
            replace F := fr_then F hf
            replace z8_0 := z8_0.keep (al _)
            replace z8_1 := z8_1.keep (al _)
            replace z8_2 := z8_2.keep (al _)
            replace z13 := z13.keep (al _)
            replace z14 := z14.keep (al _)
            replace z16 := z16.keep (al _)
            replace z18 := z18.keep (al _)
            replace T8_5 := T8_5.keep (al _)
            replace T8_11 := T8_11.keep (al _)
            replace T8_17 := T8_17.keep (al _)
            replace H13 := H13.keep (al _)
            replace H14 := H14.keep (al _)
            replace H16 := H16.keep (al _)
            replace H18 := H18.keep (al _)
            replace HK := HK.keep (al _)
            replace HL := HL.keep (al _)
            replace HM := HM.keep (al _)
            replace HD := HD.keep (al _)
            replace F := fr_then F (al _)
            have z20 := Box2.new W20 26 (.slice A20 n20 c20) (.slice B20 m20 k20)
            have H20 : Hold (fun u => TC 0 [(m0 : Int), (m3 : Int)] ((mmL (mmL (rot ek (m0 * m1)) (rot el (m1 * m2)) m0 m1 m2) (rot em (m2 * m3)) m0 m2 m3).map canR) u (.slice A20 n20 c20) (.slice B20 m20 k20)) (W20.alloc (.cells #[.slice A20 n20 c20, .slice B20 m20 k20] 26)) := (H.mono fun _ h => h.out).keep (al _)
            clear P hf H al
            have P := Lib.hid (add_k T8_11.now H13.now K2 K4)
            have pp110 := z8_1.c0
            have pp111 := z8_1.c1
            have pp130 := z13.c0
            have pp131 := z13.c1
            go_wp2_with fail
            clear pp110 pp111 pp130 pp131
            generalize W20.alloc (.cells #[.slice A20 n20 c20, .slice B20 m20 k20] 26) = U20 at *
            generalize W20.heap.size = b20 at *
            with_reducible refine P.out.mono ?_
            rintro e W22 ⟨v, rfl, hf, H⟩
            obtain ⟨A22, n22, c22, B22, m22, k22, rfl, -⟩ := H.now
            have al := fun R => (Fr.refl R W22).alloc (.cells #[.slice A22 n22 c22, .slice B22 m22 k22] 26)
            replace z8_0 := z8_0.keep hf
            replace z8_1 := z8_1.keep hf
            replace z8_2 := z8_2.keep hf
            replace z13 := z13.keep hf
            replace z14 := z14.keep hf
            replace z16 := z16.keep hf
            replace z18 := z18.keep hf
            replace z20 := z20.keep hf
            replace T8_5 := T8_5.keep hf
            replace T8_11 := T8_11.keep hf
            replace T8_17 := T8_17.keep hf
            replace H13 := H13.keep hf
            replace H14 := H14.keep hf
            replace H16 := H16.keep hf
            replace H18 := H18.keep hf
            replace H20 := H20.keep hf
            replace HK := HK.keep hf
            replace HL := HL.keep hf
            replace HM := HM.keep hf
            replace HD := HD.keep hf
            replace F := fr_then F hf
            replace z8_0 := z8_0.keep (al _)
            replace z8_1 := z8_1.keep (al _)
            replace z8_2 := z8_2.keep (al _)
            replace z13 := z13.keep (al _)
            replace z14 := z14.keep (al _)
            replace z16 := z16.keep (al _)
            replace z18 := z18.keep (al _)
            replace z20 := z20.keep (al _)
            replace T8_5 := T8_5.keep (al _)
            replace T8_11 := T8_11.keep (al _)
            replace T8_17 := T8_17.keep (al _)
            replace H13 := H13.keep (al _)
            replace H14 := H14.keep (al _)
            replace H16 := H16.keep (al _)
            replace H18 := H18.keep (al _)
            replace H20 := H20.keep (al _)
            replace HK := HK.keep (al _)
            replace HL := HL.keep (al _)
            replace HM := HM.keep (al _)
            replace HD := HD.keep (al _)
            replace F := fr_then F (al _)
            have z22 := Box2.new W22 26 (.slice A22 n22 c22) (.slice B22 m22 k22)
            have H22 : Hold (fun u => TC 0 [(m1 : Int), (m2 : Int)] ((List.zipWith (fun p q => p + q) (rot el (m1 * m2)) (rot em (m1 * m2))).map canR) u (.slice A22 n22 c22) (.slice B22 m22 k22)) (W22.alloc (.cells #[.slice A22 n22 c22, .slice B22 m22 k22] 26)) := (H.mono fun _ h => h.out).keep (al _)
            clear P hf H al
            have P := Lib.hid (mm_k (K := 400) T8_5.now (H22.now.2 rfl) K1s KS D012 HDI (Lib.hid (by decide)))
            have pp100 := z8_0.c0
            have pp101 := z8_0.c1
            have pp220 := z22.c0
            have pp221 := z22.c1
            go_wp2_with fail
            clear pp100 pp101 pp220 pp221
            generalize W22.alloc (.cells #[.slice A22 n22 c22, .slice B22 m22 k22] 26) = U22 at *
            generalize W22.heap.size = b22 at *
            with_reducible refine P.out.mono ?_
            rintro e W24 ⟨v, rfl, hf, H⟩
            obtain ⟨A24, n24, c24, B24, m24, k24, rfl, -⟩ := H.now
            have al := fun R => (Fr.refl R W24).alloc (.cells #[.slice A24 n24 c24, .slice B24 m24 k24] 26)
            replace z8_0 := z8_0.keep hf
            replace z8_1 := z8_1.keep hf
            replace z8_2 := z8_2.keep hf
            replace z13 := z13.keep hf
            replace z14 := z14.keep hf
            replace z16 := z16.keep hf
            replace z18 := z18.keep hf
            replace z20 := z20.keep hf
            replace z22 := z22.keep hf
            replace T8_5 := T8_5.keep hf
            replace T8_11 := T8_11.keep hf
            replace T8_17 := T8_17.keep hf
            replace H13 := H13.keep hf
            replace H14 := H14.keep hf
            replace H16 := H16.keep hf
            replace H18 := H18.keep hf
            replace H20 := H20.keep hf
            replace H22 := H22.keep hf
            replace HK := HK.keep hf
            replace HL := HL.keep hf
            replace HM := HM.keep hf
            replace HD := HD.keep hf
            replace F := fr_then F hf
            replace z8_0 := z8_0.keep (al _)
            replace z8_1 := z8_1.keep (al _)
            replace z8_2 := z8_2.keep (al _)
            replace z13 := z13.keep (al _)
            replace z14 := z14.keep (al _)
            replace z16 := z16.keep (al _)
            replace z18 := z18.keep (al _)
            replace z20 := z20.keep (al _)
            replace z22 := z22.keep (al _)
            replace T8_5 := T8_5.keep (al _)
            replace T8_11 := T8_11.keep (al _)
            replace T8_17 := T8_17.keep (al _)
            replace H13 := H13.keep (al _)
            replace H14 := H14.keep (al _)
            replace H16 := H16.keep (al _)
            replace H18 := H18.keep (al _)
            replace H20 := H20.keep (al _)
            replace H22 := H22.keep (al _)
            replace HK := HK.keep (al _)
            replace HL := HL.keep (al _)
            replace HM := HM.keep (al _)
            replace HD := HD.keep (al _)
            replace F := fr_then F (al _)
            have z24 := Box2.new W24 26 (.slice A24 n24 c24) (.slice B24 m24 k24)
            have H24 : Hold (fun u => TC 0 [(m0 : Int), (m2 : Int)] ((List.zipWith (fun p q => p + q) (mmL (rot ek (m0 * m1)) (rot el (m1 * m2)) m0 m1 m2) (mmL (rot ek (m0 * m1)) (rot em (m1 * m2)) m0 m1 m2)).map canR) u (.slice A24 n24 c24) (.slice B24 m24 k24)) (W24.alloc (.cells #[.slice A24 n24 c24, .slice B24 m24 k24] 26)) := (H.mono fun _ h => h.out).keep (al _)
            clear P hf H al
            have P := Lib.hid (mm_k (K := 400) T8_5.now H13.now K1 K4 D012 (Lib.hid rfl) (Lib.hid (by decide)))
            have pp100 := z8_0.c0
            have pp101 := z8_0.c1
            have pp130 := z13.c0
            have pp131 := z13.c1
            go_wp2_with fail
            clear pp100 pp101 pp130 pp131
            generalize W24.alloc (.cells #[.slice A24 n24 c24, .slice B24 m24 k24] 26) = U24 at *
            generalize W24.heap.size = b24 at *
            with_reducible refine P.out.mono ?_
            rintro e W26 ⟨v, rfl, hf, H⟩
            obtain ⟨A26, n26, c26, B26, m26, k26, rfl, -⟩ := H.now
            have al := fun R => (Fr.refl R W26).alloc (.cells #[.slice A26 n26 c26, .slice B26 m26 k26] 26)
            replace z8_0 := z8_0.keep hf
            replace z8_1 := z8_1.keep hf
            replace z8_2 := z8_2.keep hf
            replace z13 := z13.keep hf
            replace z14 := z14.keep hf
            replace z16 := z16.keep hf
            replace z18 := z18.keep hf
            replace z20 := z20.keep hf
            replace z22 := z22.keep hf
            replace z24 := z24.keep hf
            replace T8_5 := T8_5.keep hf
            replace T8_11 := T8_11.keep hf
            replace T8_17 := T8_17.keep hf
            replace H13 := H13.keep hf
            replace H14 := H14.keep hf
            replace H16 := H16.keep hf
            replace H18 := H18.keep hf
            replace H20 := H20.keep hf
            replace H22 := H22.keep hf
            replace H24 := H24.keep hf
            replace HK := HK.keep hf
            replace HL := HL.keep hf
            replace HM := HM.keep hf
            replace HD := HD.keep hf
            replace F := fr_then F hf
            replace z8_0 := z8_0.keep (al _)
            replace z8_1 := z8_1.keep (al _)
            replace z8_2 := z8_2.keep (al _)
            replace z13 := z13.keep (al _)
            replace z14 := z14.keep (al _)
            replace z16 := z16.keep (al _)
            replace z18 := z18.keep (al _)
            replace z20 := z20.keep (al _)
            replace z22 := z22.keep (al _)
            replace z24 := z24.keep (al _)
            replace T8_5 := T8_5.keep (al _)
            replace T8_11 := T8_11.keep (al _)
            replace T8_17 := T8_17.keep (al _)
            replace H13 := H13.keep (al _)
            replace H14 := H14.keep (al _)
            replace H16 := H16.keep (al _)
            replace H18 := H18.keep (al _)
            replace H20 := H20.keep (al _)
            replace H22 := H22.keep (al _)
            replace H24 := H24.keep (al _)
            replace HK := HK.keep (al _)
            replace HL := HL.keep (al _)
            replace HM := HM.keep (al _)
            replace HD := HD.keep (al _)
            replace F := fr_then F (al _)
            have z26 := Box2.new W26 26 (.slice A26 n26 c26) (.slice B26 m26 k26)
            have H26 : Hold (fun u => TC 0 [(m0 : Int), (m2 : Int)] ((mmL (rot ek (m0 * m1)) (rot em (m1 * m2)) m0 m1 m2).map canR) u (.slice A26 n26 c26) (.slice B26 m26 k26)) (W26.alloc (.cells #[.slice A26 n26 c26, .slice B26 m26 k26] 26)) := (H.mono fun _ h => h.out).keep (al _)
            clear P hf H al
            have P := Lib.hid (add_k (H14.now.2 rfl) (H26.now.2 rfl) KXY KXW)
            have pp140 := z14.c0
            have pp141 := z14.c1
            have pp260 := z26.c0
            have pp261 := z26.c1
            go_wp2_with fail
            clear pp140 pp141 pp260 pp261
            generalize W26.alloc (.cells #[.slice A26 n26 c26, .slice B26 m26 k26] 26) = U26 at *
            generalize W26.heap.size = b26 at *
            with_reducible refine P.out.mono ?_
            rintro e W28 ⟨v, rfl, hf, H⟩
            obtain ⟨A28, n28, c28, B28, m28, k28, rfl, -⟩ := H.now
            have al := fun R => (Fr.refl R W28).alloc (.cells #[.slice A28 n28 c28, .slice B28 m28 k28] 26)
            replace z8_0 := z8_0.keep hf
            replace z8_1 := z8_1.keep hf
            replace z8_2 := z8_2.keep hf
            replace z13 := z13.keep hf
            replace z14 := z14.keep hf
            replace z16 := z16.keep hf
            replace z18 := z18.keep hf
            replace z20 := z20.keep hf
            replace z22 := z22.keep hf
            replace z24 := z24.keep hf
            replace z26 := z26.keep hf
            replace T8_5 := T8_5.keep hf
            replace T8_11 := T8_11.keep hf
            replace T8_17 := T8_17.keep hf
            replace H13 := H13.keep hf
            replace H14 := H14.keep hf
            replace H16 := H16.keep hf
            replace H18 := H18.keep hf
            replace H20 := H20.keep hf
            replace H22 := H22.keep hf
            replace H24 := H24.keep hf
            replace H26 := H26.keep hf
            replace HK := HK.keep hf
            replace HL := HL.keep hf
            replace HM := HM.keep hf
            replace HD := HD.keep hf
            replace F := fr_then F hf
            replace z8_0 := z8_0.keep (al _)
            replace z8_1 := z8_1.keep (al _)
            replace z8_2 := z8_2.keep (al _)
            replace z13 := z13.keep (al _)
            replace z14 := z14.keep (al _)
            replace z16 := z16.keep (al _)
            replace z18 := z18.keep (al _)
            replace z20 := z20.keep (al _)
            replace z22 := z22.keep (al _)
            replace z24 := z24.keep (al _)
            replace z26 := z26.keep (al _)
            replace T8_5 := T8_5.keep (al _)
            replace T8_11 := T8_11.keep (al _)
            replace T8_17 := T8_17.keep (al _)
            replace H13 := H13.keep (al _)
            replace H14 := H14.keep (al _)
            replace H16 := H16.keep (al _)
            replace H18 := H18.keep (al _)
            replace H20 := H20.keep (al _)
            replace H22 := H22.keep (al _)
            replace H24 := H24.keep (al _)
            replace H26 := H26.keep (al _)
            replace HK := HK.keep (al _)
            replace HL := HL.keep (al _)
            replace HM := HM.keep (al _)
            replace HD := HD.keep (al _)
            replace F := fr_then F (al _)
            have z28 := Box2.new W28 26 (.slice A28 n28 c28) (.slice B28 m28 k28)
            have H28 : Hold (fun u => TC 0 [(m0 : Int), (m2 : Int)] ((List.zipWith (fun p q => p + q) (mmL (rot ek (m0 * m1)) (rot el (m1 * m2)) m0 m1 m2) (mmL (rot ek (m0 * m1)) (rot em (m1 * m2)) m0 m1 m2)).map canR) u (.slice A28 n28 c28) (.slice B28 m28 k28)) (W28.alloc (.cells #[.slice A28 n28 c28, .slice B28 m28 k28] 26)) := (H.mono fun _ h => h.out).keep (al _)
            clear P hf H al
            have P := Lib.hid (tsame_u (H16.now.2 rfl) (H20.now.2 rfl) FB FB rfl (Lib.hid rfl))
            have pp160 := z16.c0
            have pp161 := z16.c1
            have pp200 := z20.c0
            have pp201 := z20.c1
            go_wp2_with fail
            clear pp160 pp161 pp200 pp201
            generalize W28.alloc (.cells #[.slice A28 n28 c28, .slice B28 m28 k28] 26) = U28 at *
            generalize W28.heap.size = b28 at *
            with_reducible refine P.out.mono ?_
            rintro e V13 ⟨v, rfl, hf, H⟩
            obtain rfl := H.now
            replace z8_0 := z8_0.keep hf
            replace z8_1 := z8_1.keep hf
            replace z8_2 := z8_2.keep hf
            replace z13 := z13.keep hf
            replace z14 := z14.keep hf
            replace z16 := z16.keep hf
            replace z18 := z18.keep hf
            replace z20 := z20.keep hf
            replace z22 := z22.keep hf
            replace z24 := z24.keep hf
            replace z26 := z26.keep hf
            replace z28 := z28.keep hf
            replace T8_5 := T8_5.keep hf
            replace T8_11 := T8_11.keep hf
            replace T8_17 := T8_17.keep hf
            replace H13 := H13.keep hf
            replace H14 := H14.keep hf
            replace H16 := H16.keep hf
            replace H18 := H18.keep hf
            replace H20 := H20.keep hf
            replace H22 := H22.keep hf
            replace H24 := H24.keep hf
            replace H26 := H26.keep hf
            replace H28 := H28.keep hf
            replace HK := HK.keep hf
            replace HL := HL.keep hf
            replace HM := HM.keep hf
            replace HD := HD.keep hf
            replace F := fr_then F hf
            clear P hf H
            have P := Lib.hid (tsame_u (H24.now.2 rfl) (H28.now.2 rfl) FP FP rfl (Lib.hid rfl))
            have pp240 := z24.c0
            have pp241 := z24.c1
            have pp280 := z28.c0
            have pp281 := z28.c1
            go_wp2_with fail
            clear pp240 pp241 pp280 pp281
            with_reducible refine P.out.mono ?_
            rintro e V14 ⟨v, rfl, hf, H⟩
            obtain rfl := H.now
            replace z8_0 := z8_0.keep hf
            replace z8_1 := z8_1.keep hf
            replace z8_2 := z8_2.keep hf
            replace z13 := z13.keep hf
            replace z14 := z14.keep hf
            replace z16 := z16.keep hf
            replace z18 := z18.keep hf
            replace z20 := z20.keep hf
            replace z22 := z22.keep hf
            replace z24 := z24.keep hf
            replace z26 := z26.keep hf
            replace z28 := z28.keep hf
            replace T8_5 := T8_5.keep hf
            replace T8_11 := T8_11.keep hf
            replace T8_17 := T8_17.keep hf
            replace H13 := H13.keep hf
            replace H14 := H14.keep hf
            replace H16 := H16.keep hf
            replace H18 := H18.keep hf
            replace H20 := H20.keep hf
            replace H22 := H22.keep hf
            replace H24 := H24.keep hf
            replace H26 := H26.keep hf
            replace H28 := H28.keep hf
            replace HK := HK.keep hf
            replace HL := HL.keep hf
            replace HM := HM.keep hf
            replace HD := HD.keep hf
            replace F := fr_then F hf
            clear P hf H
            have P := Lib.hid (tmay_u (H16.now.2 rfl) FB HMB)
            have pp160 := z16.c0
            have pp161 := z16.c1
            go_wp2_with fail
            clear pp160 pp161
            with_reducible refine P.out.mono ?_
            rintro e V15 ⟨v, rfl, hf, H⟩
            obtain rfl := H.now
            replace z8_0 := z8_0.keep hf
            replace z8_1 := z8_1.keep hf
            replace z8_2 := z8_2.keep hf
            replace z13 := z13.keep hf
            replace z14 := z14.keep hf
            replace z16 := z16.keep hf
            replace z18 := z18.keep hf
            replace z20 := z20.keep hf
            replace z22 := z22.keep hf
            replace z24 := z24.keep hf
            replace z26 := z26.keep hf
            replace z28 := z28.keep hf
            replace T8_5 := T8_5.keep hf
            replace T8_11 := T8_11.keep hf
            replace T8_17 := T8_17.keep hf
            replace H13 := H13.keep hf
            replace H14 := H14.keep hf
            replace H16 := H16.keep hf
            replace H18 := H18.keep hf
            replace H20 := H20.keep hf
            replace H22 := H22.keep hf
            replace H24 := H24.keep hf
            replace H26 := H26.keep hf
            replace H28 := H28.keep hf
            replace HK := HK.keep hf
            replace HL := HL.keep hf
            replace HM := HM.keep hf
            replace HD := HD.keep hf
            replace F := fr_then F hf
            clear P hf H
            have P := Lib.hid (known10_u V15)
            go_wp2_with fail
            with_reducible refine P.out.mono ?_
            rintro e V16 ⟨v, rfl, hf, H⟩
            obtain rfl := H.now
            replace z8_0 := z8_0.keep hf
            replace z8_1 := z8_1.keep hf
            replace z8_2 := z8_2.keep hf
            replace z13 := z13.keep hf
            replace z14 := z14.keep hf
            replace z16 := z16.keep hf
            replace z18 := z18.keep hf
            replace z20 := z20.keep hf
            replace z22 := z22.keep hf
            replace z24 := z24.keep hf
            replace z26 := z26.keep hf
            replace z28 := z28.keep hf
            replace T8_5 := T8_5.keep hf
            replace T8_11 := T8_11.keep hf
            replace T8_17 := T8_17.keep hf
            replace H13 := H13.keep hf
            replace H14 := H14.keep hf
            replace H16 := H16.keep hf
            replace H18 := H18.keep hf
            replace H20 := H20.keep hf
            replace H22 := H22.keep hf
            replace H24 := H24.keep hf
            replace H26 := H26.keep hf
            replace H28 := H28.keep hf
            replace HK := HK.keep hf
            replace HL := HL.keep hf
            replace HM := HM.keep hf
            replace HD := HD.keep hf
            replace F := fr_then F hf
            clear P hf H
            go_wp2_with fail
            go_ret
            exact ⟨rfl, F⟩
end Go.Proofs.YtlppcfeimpcbjaaGreat
