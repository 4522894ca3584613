import Derived.Test.YtlknmoegngjpcaaGreatTenA
set_option linter.unusedSimpArgs false
set_option linter.unusedVariables false

/- Shapes: May and Count, of the program and of the document. -/
namespace Go.Proofs.YtlknmoegngjpcaaGreat
open Go.RowKit

theorem all_step {l : List Int} {j : Nat} (h : ∀ d ∈ l.take j, 1 ≤ d) (hj : j < l.length) (h1 : 1 ≤ l[j]) : ∀ d ∈ l.take (j + 1), 1 ≤ d := by
  intro d hd
  rw [List.take_succ_eq_append_getElem hj, List.mem_append] at hd
  rcases hd with hd | hd
  · exact h d hd
  · simp at hd
    subst hd
    exact h1

set_option maxHeartbeats 2000000 in
theorem smay_calls {S : Nat → Prop} (w : World) (v : Value) (l : List Int) (h : Sl Im S w v l) :
    Calls Tryz.prog 43 #[v] w fun e w' => e = .returned (.int .i64 (mayS l)) ∧ w' = w := by
  obtain ⟨A, c, rfl, _, _, hlx⟩ := h.slice
  obtain ⟨r, hr⟩ : ∃ r, r = mayS l := ⟨_, rfl⟩
  rw [← hr]
  have H := Lib.hid h
  have HR := Lib.hid hr
  clear h hr
  go_enter Tryz.func43, Tryz.ntmps43
  by_cases h4 : 4 < l.length
  · have HE : r = 14 := HR.out.trans (mayS_4 h4)
    go_wp2
    go_ret
    exact ⟨by first | rfl | exact congrArg (fun z : Int => Ending.returned (.int .i64 z)) HE.symm, rfl⟩
  go_wp2
  go_loop [3] (fun i => ∃ j : Nat, j ≤ l.length ∧ i = .int .i64 j ∧ Hid (∀ d ∈ l.take j, 1 ≤ d)) (fun i => l.length - (intOf i).toNat)
  case atStart => exact ⟨0, Nat.zero_le _, rfl, Lib.hid (by simp)⟩
  case round =>
    obtain ⟨j, hj, rfl, HA⟩ := hrel
    by_cases hlt : j < l.length
    · obtain ⟨ad, rfl, hx, hx1, hx2⟩ := Kd.int_cell H.out (i := j) hlt
      have hmem := List.getElem_mem hlt
      have hst := all_step HA.out hlt
      generalize l[j] = d at hx hx1 hx2 hmem hst
      by_cases hd : d < 1
      · have HE : r = 13 := HR.out.trans (mayS_1 h4 hmem hd)
        clear hst
        go_wp2
        go_ret
        exact ⟨by first | rfl | exact congrArg (fun z : Int => Ending.returned (.int .i64 z)) HE.symm, rfl⟩
      · have HA := Lib.hid (hst (by omega))
        clear hst
        go_wp2
        go_round
        case rel => exact ⟨j + 1, by omega, by go_num, HA⟩
        case measure => simp [intOf]; omega
    · obtain rfl : j = l.length := by omega
      have H1 := Lib.hid (show ∀ d ∈ l, 1 ≤ d from fun d hd => HA.out d (by rwa [List.take_length]))
      clear HA
      go_wp2
      go_loop [4, 5] (fun n i => ∃ (j : Nat) (m : Int), j ≤ l.length ∧ i = .int .i64 j ∧ n = .int .i64 m ∧ 1 ≤ m ∧ m ≤ 1024 ∧ Hid (m = pr (l.take j))) (fun _ i => l.length - (intOf i).toNat)
      case atStart => exact ⟨0, 1, Nat.zero_le _, rfl, rfl, by omega, by omega, Lib.hid (by simp [pr])⟩
      case round =>
        obtain ⟨j, m, hj, rfl, rfl, hm1, hm2, hm⟩ := hrel
        by_cases hlt : j < l.length
        · obtain ⟨ad, rfl, hx, hx1, hx2⟩ := Kd.int_cell H.out (i := j) hlt
          have hp := pr_take hlt
          have hd1 := H1.out _ (List.getElem_mem hlt)
          rw [← hm.out] at hp
          have hle := pr_take_le H1.out (j + 1)
          rw [hp] at hle
          generalize l[j] = d at hx hx1 hx2 hp hd1 hle
          have HP := Lib.hid hp
          clear hp
          have hmd : d ≤ m * d := by have := Int.mul_le_mul hm1 (Int.le_refl d) (by omega) (by omega); omega
          by_cases hg : 1024 < d
          · have HE : r = 14 := HR.out.trans (mayS_n h4 H1.out (by omega))
            clear hle hmd
            go_wp2
            go_ret
            exact ⟨by first | rfl | exact congrArg (fun z : Int => Ending.returned (.int .i64 z)) HE.symm, rfl⟩
          · have hmm : m * d ≤ 1024 * 1024 := Int.mul_le_mul hm2 (by omega) (by omega) (by omega)
            have hw : IntKind.i64.wrap (m * d) = m * d := by rw [IntKind.wrap_i64]; omega
            obtain ⟨q, hq⟩ : ∃ q, q = m * d := ⟨_, rfl⟩
            rw [← hq] at hw hle hmd hmm
            have HW := Lib.hid hq
            by_cases hgt : 1024 < q
            · have HE : r = 14 := HR.out.trans (mayS_n h4 H1.out (by omega))
              rw [hq] at hw hgt
              clear hle hmd hmm hq
              go_wp2
              go_ret
              exact ⟨by first | rfl | exact congrArg (fun z : Int => Ending.returned (.int .i64 z)) HE.symm, rfl⟩
            · rw [hq] at hw hgt
              clear hle hmm hq
              rw [HW.out] at hmd
              go_wp2
              go_round
              case rel => exact ⟨j + 1, m * d, by omega, by go_num, rfl, by omega, by omega, HP.out.symm⟩
              case measure => simp [intOf]; omega
        · obtain rfl : j = l.length := by omega
          have HE : r = 0 := HR.out.trans (mayS_0 h4 H1.out (by rw [hm.out, List.take_length] at hm2; omega))
          go_wp2
          go_ret
          exact ⟨by first | rfl | exact congrArg (fun z : Int => Ending.returned (.int .i64 z)) HE.symm, rfl⟩

set_option maxHeartbeats 2000000 in
theorem scount_calls {S : Nat → Prop} (w : World) (v : Value) (l : List Int) (h : Sl Im S w v l) :
    Calls Tryz.prog 44 #[v] w fun e w' => e = .returned (.int .i64 (cntS l)) ∧ w' = w := by
  obtain ⟨A, c, rfl, _, _, hlx⟩ := h.slice
  obtain ⟨r, hr⟩ : ∃ r, r = cntS l := ⟨_, rfl⟩
  rw [← hr]
  have p := smay_calls w (.slice A l.length c) l h
  obtain ⟨e, he⟩ : ∃ e, e = mayS l := ⟨_, rfl⟩
  rw [← he] at p
  have H := Lib.hid h
  have HR := Lib.hid hr
  have HE := Lib.hid he
  clear h hr he
  go_enter Tryz.func44, Tryz.ntmps44
  by_cases h0 : e = 0
  · subst h0
    obtain ⟨h4, h1, h2⟩ := mayS_ok HE.out.symm
    have H1 := Lib.hid h1
    have HC : r = pr l := HR.out.trans (cntS_ok HE.out.symm)
    clear h1
    go_wp2_with fail
    refine p.mono ?_
    rintro e w1 ⟨rfl, rfl⟩
    go_wp2_with fail
    go_loop [3, 4] (fun n i => ∃ (j : Nat) (m : Int), j ≤ l.length ∧ i = .int .i64 j ∧ n = .int .i64 m ∧ 1 ≤ m ∧ m ≤ 1024 ∧ Hid (m = pr (l.take j))) (fun _ i => l.length - (intOf i).toNat)
    case atStart => exact ⟨0, 1, Nat.zero_le _, rfl, rfl, by omega, by omega, Lib.hid (by simp [pr])⟩
    case round =>
      obtain ⟨j, m, hj, rfl, rfl, hm1, hm2, hm⟩ := hrel
      by_cases hlt : j < l.length
      · obtain ⟨ad, rfl, hx, hx1, hx2⟩ := Kd.int_cell H.out (i := j) hlt
        have hp := pr_take hlt
        have hq1 := pr_take_pos H1.out (j + 1)
        rw [← hm.out] at hp
        have hle := pr_take_le H1.out (j + 1)
        rw [hp] at hle hq1
        generalize l[j] = d at hx hx1 hx2 hp hle hq1
        have HP := Lib.hid hp
        have hw : IntKind.i64.wrap (m * d) = m * d := by rw [IntKind.wrap_i64]; omega
        clear hp
        go_wp2
        go_round
        case rel => exact ⟨j + 1, m * d, by omega, by go_num, rfl, by omega, by omega, HP.out.symm⟩
        case measure => simp [intOf]; omega
      · obtain rfl : j = l.length := by omega
        have HE' : r = m := by rw [HC, hm.out, List.take_length]
        go_wp2
        go_ret
        exact ⟨by first | rfl | exact congrArg (fun z : Int => Ending.returned (.int .i64 z)) HE'.symm | exact congrArg (fun z : Int => Ending.returned (.int .i64 z)) (HE'.symm.trans HC), rfl⟩
  · have HC : r = 0 := HR.out.trans (cntS_no (by rw [← HE.out]; exact h0))
    go_wp2_with fail
    refine p.mono ?_
    rintro e w1 ⟨rfl, rfl⟩
    go_wp2_with fail
    go_ret
    exact ⟨by first | rfl | exact congrArg (fun z : Int => Ending.returned (.int .i64 z)) HC.symm, rfl⟩

set_option maxHeartbeats 2000000 in
theorem shmay_calls {S : Nat → Prop} (w : World) (v : Value) (l : List Int) (h : Sl Im S w v l) :
    Calls Tryz.prog 113 #[v] w fun e w' => e = .returned (.int .i64 (mayS l)) ∧ w' = w := by
  obtain ⟨A, c, rfl, _, _, hlx⟩ := h.slice
  obtain ⟨r, hr⟩ : ∃ r, r = mayS l := ⟨_, rfl⟩
  rw [← hr]
  have H := Lib.hid h
  have HR := Lib.hid hr
  clear h hr
  go_enter Tryz.func113, Tryz.ntmps113
  by_cases h4 : 4 < l.length
  · have HE : r = 14 := HR.out.trans (mayS_4 h4)
    go_wp2
    go_ret
    exact ⟨by first | rfl | exact congrArg (fun z : Int => Ending.returned (.int .i64 z)) HE.symm, rfl⟩
  go_wp2
  go_loop [10] (fun i => ∃ j : Nat, j ≤ l.length ∧ i = .int .i64 j ∧ Hid (∀ d ∈ l.take j, 1 ≤ d)) (fun i => l.length - (intOf i).toNat)
  case atStart => exact ⟨0, Nat.zero_le _, rfl, Lib.hid (by simp)⟩
  case round =>
    obtain ⟨j, hj, rfl, HA⟩ := hrel
    by_cases hlt : j < l.length
    · obtain ⟨ad, rfl, hx, hx1, hx2⟩ := Kd.int_cell H.out (i := j) hlt
      have hmem := List.getElem_mem hlt
      have hst := all_step HA.out hlt
      generalize l[j] = d at hx hx1 hx2 hmem hst
      by_cases hd : d < 1
      · have HE : r = 13 := HR.out.trans (mayS_1 h4 hmem hd)
        clear hst
        go_wp2
        go_ret
        exact ⟨by first | rfl | exact congrArg (fun z : Int => Ending.returned (.int .i64 z)) HE.symm, rfl⟩
      · have HA := Lib.hid (hst (by omega))
        clear hst
        go_wp2
        go_round
        case rel => exact ⟨j + 1, by omega, by go_num, HA⟩
        case measure => simp [intOf]; omega
    · obtain rfl : j = l.length := by omega
      have H1 := Lib.hid (show ∀ d ∈ l, 1 ≤ d from fun d hd => HA.out d (by rwa [List.take_length]))
      have p := product_calls w (.slice A l.length c) l H.out H1.out
      clear HA
      by_cases hg : 1024 < pr l
      · have HE : r = 14 := HR.out.trans (mayS_n h4 H1.out hg)
        rw [if_pos hg] at p
        clear hg
        go_wp2_with fail
        refine p.mono ?_
        rintro e w1 ⟨rfl, rfl⟩
        go_wp2_with fail
        go_ret
        exact ⟨by first | rfl | exact congrArg (fun z : Int => Ending.returned (.int .i64 z)) HE.symm, rfl⟩
      · have HE : r = 0 := HR.out.trans (mayS_0 h4 H1.out hg)
        have hp1 := pr_pos H1.out
        rw [if_neg hg] at p
        generalize pr l = q at p hg hp1
        go_wp2_with fail
        refine p.mono ?_
        rintro e w1 ⟨rfl, rfl⟩
        go_wp2_with fail
        go_ret
        exact ⟨by first | rfl | exact congrArg (fun z : Int => Ending.returned (.int .i64 z)) HE.symm, rfl⟩

set_option maxHeartbeats 1000000 in
theorem shcount_calls {S : Nat → Prop} (w : World) (v : Value) (l : List Int) (h : Sl Im S w v l) :
    Calls Tryz.prog 114 #[v] w fun e w' => e = .returned (.int .i64 (cntS l)) ∧ w' = w := by
  obtain ⟨A, c, rfl, _, _, hlx⟩ := h.slice
  obtain ⟨r, hr⟩ : ∃ r, r = cntS l := ⟨_, rfl⟩
  rw [← hr]
  have p := shmay_calls w (.slice A l.length c) l h
  obtain ⟨e, he⟩ : ∃ e, e = mayS l := ⟨_, rfl⟩
  rw [← he] at p
  have H := Lib.hid h
  have HR := Lib.hid hr
  have HE := Lib.hid he
  clear h hr he
  go_enter Tryz.func114, Tryz.ntmps114
  by_cases h0 : e = 0
  · subst h0
    obtain ⟨h4, h1, h2⟩ := mayS_ok HE.out.symm
    have q := product_calls w (.slice A l.length c) l H.out h1
    rw [if_neg (by omega)] at q
    have HC : r = pr l := HR.out.trans (cntS_ok HE.out.symm)
    clear h1
    go_wp2_with fail
    refine p.mono ?_
    rintro e w1 ⟨rfl, rfl⟩
    go_wp2_with fail
    refine q.mono ?_
    rintro e w1 ⟨rfl, rfl⟩
    go_wp2_with fail
    go_ret
    exact ⟨by first | rfl | exact congrArg (fun z : Int => Ending.returned (.int .i64 z)) HC.symm, rfl⟩
  · have HC : r = 0 := HR.out.trans (cntS_no (by rw [← HE.out]; exact h0))
    go_wp2_with fail
    refine p.mono ?_
    rintro e w1 ⟨rfl, rfl⟩
    go_wp2_with fail
    go_ret
    exact ⟨by first | rfl | exact congrArg (fun z : Int => Ending.returned (.int .i64 z)) HC.symm, rfl⟩
end Go.Proofs.YtlknmoegngjpcaaGreat
