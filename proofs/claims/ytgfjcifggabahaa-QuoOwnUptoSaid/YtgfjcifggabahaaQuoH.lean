
/- known of the second chapter. -/
import Derived.Test.YtgfjcifggabahaaQuoG
import Derived.Test.YtgfjcifggabahaaLawA
namespace Go.Proofs.Ytgfjcifggabahaa
open Go.RowKit

theorem small_1 (w : World) : Calls Try.prog 23 #[.int .i64 1] w fun e w' => ∃ v, e = .returned v ∧ RC (fun k => w.heap.size ≤ k) w' v 1 1 ∧ Fr (fun k => k < w.heap.size) w w' := small_r w 1 1 (by decide) (by decide)
theorem small_5 (w : World) : Calls Try.prog 23 #[.int .i64 5] w fun e w' => ∃ v, e = .returned v ∧ RC (fun k => w.heap.size ≤ k) w' v 5 1 ∧ Fr (fun k => k < w.heap.size) w w' := small_r w 5 1 (by decide) (by decide)
theorem small_6 (w : World) : Calls Try.prog 23 #[.int .i64 6] w fun e w' => ∃ v, e = .returned v ∧ RC (fun k => w.heap.size ≤ k) w' v 6 1 ∧ Fr (fun k => k < w.heap.size) w w' := small_r w 6 1 (by decide) (by decide)
theorem small_343 (w : World) : Calls Try.prog 23 #[.int .i64 343] w fun e w' => ∃ v, e = .returned v ∧ RC (fun k => w.heap.size ≤ k) w' v 343 1 ∧ Fr (fun k => k < w.heap.size) w w' := small_r w 343 1 (by decide) (by decide)
theorem of_lit (w : World) (n : Nat) (i : Int) (h : i = n) (hn : n < 18446744073709551616) : Calls Try.prog 30 #[.int .u64 i] w fun e w' => ∃ v, e = .returned v ∧ Can (fun k => w.heap.size ≤ k) w' v n 2 ∧ Fr (fun k => k < w.heap.size) w w' := by
  subst h; exact of_n w n hn
theorem pow_lit {S : Nat → Prop} (w : World) (va : Value) (A L n X : Nat) (i : Int) (h : i = n) (ha : Num S w va A L) (hl : L ≤ X) (hX : X ≤ 104857600) (hn : n < 9223372036854775808) (hp : A ^ n < LB ^ X) (hX2 : 2 ≤ X) :
    Calls Try.prog 27 #[va, .int .i64 i] w fun e w' => ∃ v, e = .returned v ∧ Can (fun k => w.heap.size ≤ k) w' v (A ^ n) X ∧ Fr (fun k => k < w.heap.size) w w' := by
  subst h; exact pow_n w va A L n X ha hl hX hn hp hX2
theorem num_lit {w : World} {t : TypeId} {b : Nat} (xs : List Nat) (cells : List Value) (N : Nat) (hN : val xs = N) (hc : cells = xs.map (fun x => .int .u32 (x : Int))) (hx : ∀ x ∈ xs, x < LB) (hl : xs.length ≤ 3) (hb : w.heap[b]? = some (.cells cells.toArray t)) :
    Num (fun k => k < w.heap.size) w (.slice (some ⟨b, 0, none⟩) xs.length xs.length) N 3 := ⟨xs, sl_lit xs cells hc hx (by omega) hb, hN, hl⟩

set_option maxHeartbeats 4000000 in
theorem qknown_calls (w : World) : Calls Try.prog 14 #[] w fun e w' => e = .returned (.bool true) ∧ Fr (fun k => k < w.heap.size) w w' := by
  have f0 : ∀ R, Fr R w ((w.alloc (.cells #[.int .u32 0, .int .u32 0, .int .u32 1] 38)).alloc (.cells #[.int .u32 3] 38)) := fun R => ((Fr.refl R w).alloc _).alloc _
  have s1 : Num (fun k => k < ((w.alloc (.cells #[.int .u32 0, .int .u32 0, .int .u32 1] 38)).alloc (.cells #[.int .u32 3] 38)).heap.size) ((w.alloc (.cells #[.int .u32 0, .int .u32 0, .int .u32 1] 38)).alloc (.cells #[.int .u32 3] 38)) (.slice (some ⟨w.heap.size, 0, none⟩) 3 3) 18446744073709551616 3 :=
    num_lit [0, 0, 1] [.int .u32 0, .int .u32 0, .int .u32 1] _ (by decide) rfl (by decide) (by decide) ((Below.heap_alloc _ _ _ (by simp)).trans (heap_alloc_new _ _))
  have s2 : Num (fun k => k < ((w.alloc (.cells #[.int .u32 0, .int .u32 0, .int .u32 1] 38)).alloc (.cells #[.int .u32 3] 38)).heap.size) ((w.alloc (.cells #[.int .u32 0, .int .u32 0, .int .u32 1] 38)).alloc (.cells #[.int .u32 3] 38)) (.slice (some ⟨w.heap.size + 1, 0, none⟩) 1 1) 3 3 :=
    num_lit [3] [.int .u32 3] _ (by decide) rfl (by decide) (by decide) (Box.at2 rfl)
  have p1 := divmod_n _ _ _ _ _ _ _ s1 s2 (by decide) (by decide) (by decide)
  have P1 := Lib.hid p1
  have F0 := Lib.hid f0
  clear p1 f0 s1 s2
  go_enter Try.func14, Try.ntmps14
  go_wp2_with fail
  refine P1.out.mono ?_
  rintro e w1 ⟨q, r, rfl, hq, hr, hf⟩
  have F := (F0.out fun k => k < w.heap.size).comp hf fun k hk h => ⟨h, by simp; omega⟩
  rw [show 18446744073709551616 / 3 = 6148914691236517205 from by decide] at hq
  rw [show 18446744073709551616 % 3 = 1 from by decide] at hr
  clear hf P1 F0
  have f1 : ∀ R, Fr R w1 ((w1.alloc (.cells #[.int .u32 1] 38)).alloc (.cells #[.int .u32 0, .int .u32 0] 38)) := fun R => ((Fr.refl R w1).alloc _).alloc _
  have s3 : Num (fun k => k < ((w1.alloc (.cells #[.int .u32 1] 38)).alloc (.cells #[.int .u32 0, .int .u32 0] 38)).heap.size) ((w1.alloc (.cells #[.int .u32 1] 38)).alloc (.cells #[.int .u32 0, .int .u32 0] 38)) (.slice (some ⟨w1.heap.size, 0, none⟩) 1 1) 1 3 :=
    num_lit [1] [.int .u32 1] _ (by decide) rfl (by decide) (by decide) ((Box.new _ _ _).alloc _)
  have s4 : Num (fun k => k < ((w1.alloc (.cells #[.int .u32 1] 38)).alloc (.cells #[.int .u32 0, .int .u32 0] 38)).heap.size) ((w1.alloc (.cells #[.int .u32 1] 38)).alloc (.cells #[.int .u32 0, .int .u32 0] 38)) (.slice (some ⟨w1.heap.size + 1, 0, none⟩) 2 2) 0 3 :=
    num_lit [0, 0] [.int .u32 0, .int .u32 0] _ (by decide) rfl (by decide) (by decide) (by rw [← World.size_alloc w1 (.cells #[.int .u32 1] 38)]; exact heap_alloc_new _ _)
  have p2 := divmod_0 _ _ _ _ _ _ s3 s4 (by decide) (by decide)
  have P2 := Lib.hid p2
  have hq1 := hq.fr (f1 _)
  have hr1 := hr.fr (f1 _)
  have F1 := Lib.hid ((F.alloc (.cells #[.int .u32 1] 38)).alloc (.cells #[.int .u32 0, .int .u32 0] 38))
  clear p2 s3 s4 hq hr f1 F
  go_wp2_with fail
  refine P2.out.mono ?_
  rintro e w2 ⟨rfl, hf⟩
  have F := fr_then F1.out hf
  replace hq := hq1.keep hf
  replace hr := hr1.keep hf
  clear hf P2 F1 hq1 hr1
  have f2 : ∀ R, Fr R w2 (w2.alloc (.cells #[.int .u32 1431655765, .int .u32 1431655765] 38)) := fun R => (Fr.refl R w2).alloc _
  have s5 : Num (fun k => k < (w2.alloc (.cells #[.int .u32 1431655765, .int .u32 1431655765] 38)).heap.size) (w2.alloc (.cells #[.int .u32 1431655765, .int .u32 1431655765] 38)) (.slice (some ⟨w2.heap.size, 0, none⟩) 2 2) 6148914691236517205 3 :=
    num_lit [1431655765, 1431655765] [.int .u32 1431655765, .int .u32 1431655765] _ (by decide) rfl (by decide) (by decide) (heap_alloc_new _ _)
  have hq2 := hq.fr (f2 _)
  have hr2 := hr.fr (f2 _)
  have F2 := Lib.hid (F.alloc (.cells #[.int .u32 1431655765, .int .u32 1431655765] 38))
  clear hq hr F f2
  go_wp2_with fail
  refine (of_r _ _ _ _ s5 (by decide)).mono ?_
  rintro e w3 ⟨v3, rfl, h3, hf⟩
  have F := fr_then F2.out hf
  replace hq := hq2.keep hf
  replace hr := hr2.keep hf
  clear hf F2 hq2 hr2 s5
  go_wp2_with fail
  refine (qis_n _ _ _ _ _ _ _ h3 hq (by decide) rfl).mono ?_
  rintro e w11 ⟨rfl, hf⟩
  replace F := fr_then F hf
  replace hr := hr.keep hf
  clear hf h3 hq
  go_wp2_with fail
  refine (small_1 _).mono ?_
  rintro e w12 ⟨vk1, rfl, k1, hf⟩
  replace F := fr_then F hf
  replace hr := hr.keep hf
  clear hf
  go_wp2_with fail
  refine (qis_n _ _ _ _ _ _ _ k1 hr (by decide) rfl).mono ?_
  rintro e w13 ⟨rfl, hf⟩
  replace F := fr_then F hf
  clear hf k1 hr
  go_wp2_with fail
  refine (of_lit _ 12 12 rfl (by decide)).mono ?_
  rintro e w14 ⟨vg1, rfl, g1, hf⟩
  replace F := fr_then F hf
  clear hf
  go_wp2_with fail
  refine (of_lit _ 18 18 rfl (by decide)).mono ?_
  rintro e w15 ⟨vg2, rfl, g2, hf⟩
  replace F := fr_then F hf
  replace g1 := g1.keep hf
  clear hf
  go_wp2_with fail
  refine (gcd_n _ _ _ _ _ _ g1.num g2.num (by decide)).mono ?_
  rintro e w16 ⟨vg3, rfl, g3, hf⟩
  replace F := fr_then F hf
  clear hf g1 g2
  go_wp2_with fail
  refine (small_6 _).mono ?_
  rintro e w17 ⟨vk2, rfl, k2, hf⟩
  replace F := fr_then F hf
  replace g3 := g3.keep hf
  clear hf
  go_wp2_with fail
  refine (qis_n _ _ _ _ _ _ _ k2 g3 (by decide) (by decide)).mono ?_
  rintro e w18 ⟨rfl, hf⟩
  replace F := fr_then F hf
  clear hf k2 g3
  go_wp2_with fail
  refine (of_lit _ 5 5 rfl (by decide)).mono ?_
  rintro e w19 ⟨vg4, rfl, g4, hf⟩
  replace F := fr_then F hf
  clear hf
  go_wp2_with fail
  refine (gcd_n (S := fun _ => True) _ _ _ _ _ _ (Num.nil _ _ 2) g4.num (by decide)).mono ?_
  rintro e w20 ⟨vg5, rfl, g5, hf⟩
  replace F := fr_then F hf
  clear hf g4
  go_wp2_with fail
  refine (small_5 _).mono ?_
  rintro e w21 ⟨vk3, rfl, k3, hf⟩
  replace F := fr_then F hf
  replace g5 := g5.keep hf
  clear hf
  go_wp2_with fail
  refine (qis_n _ _ _ _ _ _ _ k3 g5 (by decide) (by decide)).mono ?_
  rintro e w22 ⟨rfl, hf⟩
  replace F := fr_then F hf
  clear hf k3 g5
  go_wp2_with fail
  refine (pow_lit (S := fun _ => True) _ _ 0 2 0 2 0 rfl (Num.nil _ _ 2) (by decide) (by decide) (by decide) (by decide) (by decide)).mono ?_
  rintro e w23 ⟨vg6, rfl, g6, hf⟩
  replace F := fr_then F hf
  clear hf
  go_wp2_with fail
  refine (small_1 _).mono ?_
  rintro e w24 ⟨vk4, rfl, k4, hf⟩
  replace F := fr_then F hf
  replace g6 := g6.keep hf
  clear hf
  go_wp2_with fail
  refine (qis_n _ _ _ _ _ _ _ k4 g6 (by decide) (by decide)).mono ?_
  rintro e w25 ⟨rfl, hf⟩
  replace F := fr_then F hf
  clear hf k4 g6
  go_wp2_with fail
  refine (of_lit _ 7 7 rfl (by decide)).mono ?_
  rintro e w26 ⟨vg7, rfl, g7, hf⟩
  replace F := fr_then F hf
  clear hf
  go_wp2_with fail
  refine (pow_lit _ _ 7 2 3 2 3 rfl g7.num (by decide) (by decide) (by decide) (by decide) (by decide)).mono ?_
  rintro e w27 ⟨vg8, rfl, g8, hf⟩
  replace F := fr_then F hf
  clear hf g7
  go_wp2_with fail
  refine (small_343 _).mono ?_
  rintro e w28 ⟨vk5, rfl, k5, hf⟩
  replace F := fr_then F hf
  replace g8 := g8.keep hf
  clear hf
  go_wp2_with fail
  refine (qis_n _ _ _ _ _ _ _ k5 g8 (by decide) (by decide)).mono ?_
  rintro e w29 ⟨rfl, hf⟩
  replace F := fr_then F hf
  clear hf k5 g8
  go_wp2_with fail
  go_ret
  exact ⟨rfl, F⟩
end Go.Proofs.Ytgfjcifggabahaa
