/- known. -/
import Derived.Test.YtkngjhajjimjbaaLawA
namespace Go.Proofs.Ytkngjhajjimjbaa
open Go.RowKit

theorem k1 : dg LB (val [4294967295] + val [1]) = [0, 1] :=
  (congrArg (dg LB) (show val [4294967295] + val [1] = ofB LB [0, 1] by decide)).trans (dg_ofB LB2 (by decide) (by intro d hd; simp at hd; omega))
theorem k2 : dg LB (val [4294967295] * val [4294967295]) = [1, 4294967294] :=
  (congrArg (dg LB) (show val [4294967295] * val [4294967295] = ofB LB [1, 4294967294] by decide)).trans (dg_ofB LB2 (by decide) (by intro d hd; simp at hd; omega))
theorem k3 : val [1] < val [2] := by decide
theorem k4 : blen (val [0, 1]) = 33 := blen_of (by decide) (by decide)

set_option maxHeartbeats 1000000 in
theorem known_calls (w : World) : Calls Try.prog 17 #[] w fun e w' => e = .returned (.bool true) ∧ Fr (fun k => k < w.heap.size) w w' := by
  have f0 : ∀ R, Fr R w (((w.alloc (.cells #[.int .u32 4294967295] 56)).alloc (.cells #[.int .u32 1] 56)).alloc (.cells #[.int .u32 2] 56)) := fun R => (((Fr.refl R w).alloc _).alloc _).alloc _
  have s1 : Sl Lm (fun k => k < (((w.alloc (.cells #[.int .u32 4294967295] 56)).alloc (.cells #[.int .u32 1] 56)).alloc (.cells #[.int .u32 2] 56)).heap.size) (((w.alloc (.cells #[.int .u32 4294967295] 56)).alloc (.cells #[.int .u32 1] 56)).alloc (.cells #[.int .u32 2] 56)) (.slice (some ⟨w.heap.size, 0, none⟩) 1 1) [4294967295] :=
    sl_lit [4294967295] [.int .u32 4294967295] rfl (by decide) (by decide) (((Box.new _ _ _).alloc _).alloc _)
  have s2 : Sl Lm (fun k => k < (((w.alloc (.cells #[.int .u32 4294967295] 56)).alloc (.cells #[.int .u32 1] 56)).alloc (.cells #[.int .u32 2] 56)).heap.size) (((w.alloc (.cells #[.int .u32 4294967295] 56)).alloc (.cells #[.int .u32 1] 56)).alloc (.cells #[.int .u32 2] 56)) (.slice (some ⟨w.heap.size + 1, 0, none⟩) 1 1) [1] :=
    sl_lit [1] [.int .u32 1] rfl (by decide) (by decide) ((Box.at2 rfl).alloc _)
  have s3 : Sl Lm (fun k => k < (((w.alloc (.cells #[.int .u32 4294967295] 56)).alloc (.cells #[.int .u32 1] 56)).alloc (.cells #[.int .u32 2] 56)).heap.size) (((w.alloc (.cells #[.int .u32 4294967295] 56)).alloc (.cells #[.int .u32 1] 56)).alloc (.cells #[.int .u32 2] 56)) (.slice (some ⟨w.heap.size + 1 + 1, 0, none⟩) 1 1) [2] :=
    sl_lit [2] [.int .u32 2] rfl (by decide) (by decide) (Box.at3 rfl)
  have p1 := sub_calls _ _ _ _ _ s2 s3 (by decide)
  have P1 := Lib.hid p1
  have F0 := Lib.hid f0
  clear p1 f0 s2 s3
  go_enter Try.func17, Try.ntmps17
  go_wp2_with fail
  refine P1.out.mono ?_
  rintro e w1 ⟨hf1, ⟨_, rfl⟩ | ⟨hle, _⟩⟩
  case inr => exact absurd hle (by decide)
  have s4 := s1.keep' Lm_pos hf1
  have f1 := (F0.out fun k => k < w.heap.size).comp hf1 fun k hk h => ⟨h, by simp; omega⟩
  clear s1 P1 F0
  go_wp2_with fail
  have s5 : Sl Lm (fun k => k < (w1.alloc (.cells #[.int .u32 1] 56)).heap.size) (w1.alloc (.cells #[.int .u32 1] 56)) (.slice (some ⟨w1.heap.size, 0, none⟩) 1 1) [1] := sl_lit [1] [.int .u32 1] rfl (by decide) (by decide) (Box.new _ _ _)
  refine (add_calls _ _ _ _ _ (s4.fr ((Fr.refl _ _).alloc _)) s5 (by decide) (by decide)).mono ?_
  rintro e w2 ⟨v2, rfl, h2, hf2⟩
  rw [k1] at h2
  obtain ⟨A2, n2, c2, rfl⟩ := h2.form
  have f2 := fr_then (f1.alloc (.cells #[.int .u32 1] 56)) hf2
  have s6 := (s4.fr ((Fr.refl _ _).alloc (.cells #[.int .u32 1] 56))).keep' Lm_pos hf2
  clear hf2 f1 s4 s5
  go_wp2_with fail
  have s7 : Sl Lm (fun k => k < (w2.alloc (.cells #[.int .u32 0, .int .u32 1] 56)).heap.size) (w2.alloc (.cells #[.int .u32 0, .int .u32 1] 56)) (.slice (some ⟨w2.heap.size, 0, none⟩) 2 2) [0, 1] := sl_lit [0, 1] [.int .u32 0, .int .u32 1] rfl (by decide) (by decide) (heap_alloc_new _ _)
  refine (same_yes _ _ _ _ _ (h2.sl.fr ((Fr.refl _ _).alloc _)) s7 rfl).mono ?_
  rintro e w' ⟨rfl, rfl⟩
  clear s7
  have f3 := f2.alloc (.cells #[.int .u32 0, .int .u32 1] 56)
  have s8 := s6.fr ((Fr.refl _ _).alloc (.cells #[.int .u32 0, .int .u32 1] 56))
  clear f2 s6 h2
  go_wp2_with fail
  refine (mul_calls _ _ _ _ _ s8 s8 (by decide)).mono ?_
  rintro e w3 ⟨v3, rfl, h3, hf3⟩
  rw [k2] at h3
  obtain ⟨A3, n3, c3, rfl⟩ := h3.form
  have f4 := fr_then f3 hf3
  clear hf3 f3 s8
  go_wp2_with fail
  have s9 : Sl Lm (fun k => k < (w3.alloc (.cells #[.int .u32 1, .int .u32 4294967294] 56)).heap.size) (w3.alloc (.cells #[.int .u32 1, .int .u32 4294967294] 56)) (.slice (some ⟨w3.heap.size, 0, none⟩) 2 2) [1, 4294967294] := sl_lit [1, 4294967294] [.int .u32 1, .int .u32 4294967294] rfl (by decide) (by decide) (heap_alloc_new _ _)
  refine (same_yes _ _ _ _ _ (h3.sl.fr ((Fr.refl _ _).alloc _)) s9 rfl).mono ?_
  rintro e w' ⟨rfl, rfl⟩
  clear s9
  have f5 := f4.alloc (.cells #[.int .u32 1, .int .u32 4294967294] 56)
  clear f4 h3
  go_wp2_with fail
  have p2 := bits_calls _ _ _ (sl_lit (w := (w3.alloc (.cells #[.int .u32 1, .int .u32 4294967294] 56)).alloc (.cells #[.int .u32 0, .int .u32 1] 56)) (t := 56) (b := w3.heap.size + 1) [0, 1] [.int .u32 0, .int .u32 1] rfl (by decide) (by decide) (by rw [← World.size_alloc w3 (.cells #[.int .u32 1, .int .u32 4294967294] 56)]; exact heap_alloc_new _ _)) (by decide)
  rw [k4] at p2
  refine p2.mono ?_
  rintro e w' ⟨rfl, rfl⟩
  clear p2
  go_wp2_with fail
  go_ret
  exact ⟨rfl, f5.alloc _⟩
end Go.Proofs.Ytkngjhajjimjbaa
