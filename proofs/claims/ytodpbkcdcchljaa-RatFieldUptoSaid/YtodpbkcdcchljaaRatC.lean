
/- rat.Neg, side.take, sum's closure. -/
import Derived.Test.YtodpbkcdcchljaaRatB
namespace Go.Proofs.Ytodpbkcdcchljaa
open Go.RowKit

set_option maxHeartbeats 1000000 in
theorem made_n {S T : Nat → Prop} (w : World) (s : Bool) (vn vd : Value) (b N D L : Nat) (hn : Num S w vn N L) (hd : Num T w vd D L) (hx : Box w b 23 vd) (hD : 0 < D) (hL1 : 1 ≤ L) (hl : L ≤ 1048576000) :
    Calls Try.prog 83 #[.bool s, vn, .pointer (some ⟨b, 0, none⟩)] w fun e w' => ∃ v1 v2, e = .returned (.agg #[.bool (sg (rv s N D)), v1, v2]) ∧ RV (fun k => w.heap.size ≤ k) w' v1 v2 (rv s N D) L ∧ Fr (fun k => k < w.heap.size) w w' := by
  have F := fr_nz (fun k => k < w.heap.size) w
  have hb := box_nz w
  have hn0 := hn.keep (fr_nz _ w)
  have hd0 := hd.keep (fr_nz _ w)
  have hc := (hx.alloc (.cells #[.bool false, .slice none 0 0, .slice none 0 0] 25)).cell
  go_enter Try.func83, Try.ntmps83
  go_wp2_with fail
  refine (make_n _ _ _ _ _ _ _ hn0 hd0 hD hL1 hl).mono ?_
  rintro e w1 ⟨v1, v2, rfl, h1, hf⟩
  obtain ⟨⟨A3, n3, c3, rfl⟩, ⟨A4, n4, c4, rfl⟩⟩ := h1.form
  have s1 := hf.size
  simp only [World.size_alloc] at h1 s1
  have B1 := (hb.keep hf).alloc (.cells #[.bool (sg (rv s N D)), .slice A3 n3 c3, .slice A4 n4 c4] 25)
  have F1 := (fr_then F hf).alloc (.cells #[.bool (sg (rv s N D)), .slice A3 n3 c3, .slice A4 n4 c4] 25)
  have h2 := h1.fr ((Fr.refl _ _).alloc (.cells #[.bool (sg (rv s N D)), .slice A3 n3 c3, .slice A4 n4 c4] 25))
  clear F hb h1 hf hc hn hd hn0 hd0 hx
  go_wp2_with ((with_reducible apply wpList_st3); rfl; rfl; assumption; exact rat3; rfl; rfl; rfl; intro w9 B9 F9)
  refine bodyPost_ret (results_cell3 rfl rfl B9 Try.underlying25 rat3) rfl ?_
  refine ⟨_, _, rfl, ?_, F1.comp F9 fun k hk h => ⟨h, by omega⟩⟩
  exact ((h2.mono (T := fun k => w.heap.size + 1 ≤ k) fun k hk => by omega).fr (F9.mono fun k _ hk => by omega)).mono fun k hk => by omega

theorem made_q {S T : Nat → Prop} (w : World) (s : Bool) (vn vd : Value) (b N D L : Nat) (q : Rat) (hq : Hid (rv s N D = q)) (hn : Num S w vn N L) (hd : Num T w vd D L) (hx : Box w b 23 vd) (hD : 0 < D) (hL1 : 1 ≤ L) (hl : L ≤ 1048576000) :
    Calls Try.prog 83 #[.bool s, vn, .pointer (some ⟨b, 0, none⟩)] w fun e w' => ∃ v1 v2, e = .returned (.agg #[.bool (sg q), v1, v2]) ∧ RV (fun k => w.heap.size ≤ k) w' v1 v2 q L ∧ Fr (fun k => k < w.heap.size) w w' := by
  have := made_n w s vn vd b N D L hn hd hx hD hL1 hl
  rwa [hq.out] at this

set_option maxHeartbeats 2000000 in
theorem neg_n {S : Nat → Prop} (w : World) (s : Bool) (vn vd : Value) (q : Rat) (N D L : Nat) (h : RI S w s vn vd q N D L) (hL1 : 1 ≤ L) (hl : L ≤ 1048576000) :
    Calls Try.prog 34 #[.agg #[.bool s, vn, vd]] w fun e w' => ∃ v1 v2, e = .returned (.agg #[.bool (sg (-q)), v1, v2]) ∧ RV (fun k => w.heap.size ≤ k) w' v1 v2 (-q) L ∧ Fr (fun k => k < w.heap.size) w w' := by
  obtain ⟨⟨A1, n1, c1, rfl⟩, ⟨A2, n2, c2, rfl⟩⟩ := h.form
  have F := ((Fr.refl (fun k => k < w.heap.size) w).alloc (.cells #[.bool s, .slice A1 n1 c1, .slice A2 n2 c2] 25)).alloc (.cells #[.bool false, .slice none 0 0, .slice none 0 0] 25)
  have hb := box_nz (w.alloc (.cells #[.bool s, .slice A1 n1 c1, .slice A2 n2 c2] 25))
  have hx := (Box3.new w 25 (.bool s) (.slice A1 n1 c1) (.slice A2 n2 c2)).alloc (.cells #[.bool false, .slice none 0 0, .slice none 0 0] 25)
  have h0 := h.keep F
  simp only [World.size_alloc] at hb
  go_enter Try.func34, Try.ntmps34
  go_wp2_with fail
  refine (norm_n _ _ _ _ _ _ _ _ h0 hL1 hl).mono ?_
  rintro e w1 ⟨v1, v2, rfl, h1, hf⟩
  have hnum : ∃ A c, v1 = .slice A (dg LB q.num.natAbs).length c := by obtain ⟨A, c, e, _⟩ := h1.num.sl.slice; exact ⟨A, c, e⟩
  obtain ⟨A3, c3, rfl⟩ := hnum
  obtain ⟨_, ⟨A4, n4, c4, rfl⟩⟩ := h1.form
  have s1 := hf.size
  simp only [World.size_alloc] at h1 s1
  replace hb := hb.keep hf
  replace hx := hx.keep hf
  replace F := fr_then F hf
  clear hf h h0
  have hm := dg_len_pos LB2 (n := q.num.natAbs)
  obtain ⟨m, hmm⟩ : ∃ m, m = (dg LB q.num.natAbs).length := ⟨_, rfl⟩
  have hsg := sg_neg (q := q)
  rw [← hmm] at hm h1 ⊢
  have hd0 := dg_len_pos LB2 (n := q.num.natAbs)
  rcases Nat.eq_zero_or_pos m with rfl | h0
  · have hq : q.num = 0 := by omega
    have HS := Lib.hid (show sg (-q) = false by rw [hsg, hq]; rfl)
    clear hsg hq hmm hm hd0
    go_wp2_with (first
      | ((with_reducible apply wpList_st3); rfl; rfl; exact hx; exact rat3; rfl; rfl; rfl; intro w2 B2 F2; have b0 := B2.c0; have b1 := B2.c1; have b2 := B2.c2; have bf := B2.free 0
         have F3 : Fr (fun k => k ≠ w.heap.size) w1 (w2.setCell ⟨w.heap.size, 0, none⟩ (.bool false)) := F2.setCell (p := ⟨w.heap.size, 0, none⟩) (fun _ h => h rfl) _
         have hb3 := hb.fr F3 (by omega))
      | ((with_reducible apply wpList_st3); rfl; rfl; exact hb3; exact rat3; rfl; rfl; rfl; intro w9 B9 F9))
    refine bodyPost_ret (results_cell3 rfl rfl B9 Try.underlying25 rat3) rfl ?_
    have F4 := F3.comp F9 (R := fun k => k < w.heap.size ∨ w.heap.size + 2 ≤ k) fun k hk h => ⟨by omega, by omega⟩
    refine ⟨_, _, by rw [HS.out], ⟨?_, ?_⟩, F.comp F4 fun k hk h => ⟨h, .inl h⟩⟩
    · rw [neg_natAbs]
      exact h1.num.out F4 (fun k hk => .inr hk) (by omega)
    · exact h1.den.out F4 (fun k hk => .inr hk) (by omega)
  · have hq : q.num ≠ 0 := by omega
    have HS := Lib.hid (show sg (-q) = !sg q by rw [hsg, decide_eq_true hq]; rfl)
    clear hsg hq hmm hm hd0
    go_wp2_with (first
      | ((with_reducible apply wpList_st3); rfl; rfl; exact hx; exact rat3; rfl; rfl; rfl; intro w2 B2 F2; have b0 := B2.c0; have b1 := B2.c1; have b2 := B2.c2; have bf := B2.free 0
         have F3 : Fr (fun k => k ≠ w.heap.size) w1 (w2.setCell ⟨w.heap.size, 0, none⟩ (.bool (!sg q))) := F2.setCell (p := ⟨w.heap.size, 0, none⟩) (fun _ h => h rfl) _
         have hb3 := hb.fr F3 (by omega))
      | ((with_reducible apply wpList_st3); rfl; rfl; exact hb3; exact rat3; rfl; rfl; rfl; intro w9 B9 F9))
    refine bodyPost_ret (results_cell3 rfl rfl B9 Try.underlying25 rat3) rfl ?_
    have F4 := F3.comp F9 (R := fun k => k < w.heap.size ∨ w.heap.size + 2 ≤ k) fun k hk h => ⟨by omega, by omega⟩
    refine ⟨_, _, by rw [HS.out], ⟨?_, ?_⟩, F.comp F4 fun k hk h => ⟨h, .inl h⟩⟩
    · rw [neg_natAbs]
      exact h1.num.out F4 (fun k hk => .inr hk) (by omega)
    · exact h1.den.out F4 (fun k hk => .inr hk) (by omega)

set_option maxHeartbeats 1000000 in
theorem take_n {S : Nat → Prop} (w : World) (b : Bool) (s : Bool) (vn vd : Value) (q : Rat) (L : Nat) (h : RV S w vn vd q L) (hs : s = sg q) (hL1 : 1 ≤ L) (hl : L ≤ 1048576000) :
    Calls Try.prog 66 #[.agg #[.bool b], .agg #[.bool s, vn, vd]] w fun e w' => ∃ v1 v2, e = .returned (.agg #[.bool (sg (if b then -q else q)), v1, v2]) ∧ RV (fun k => S k ∨ w.heap.size ≤ k) w' v1 v2 (if b then -q else q) L ∧ Fr (fun k => k < w.heap.size) w w' := by
  subst hs
  have hq := h
  obtain ⟨⟨A1, n1, c1, rfl⟩, ⟨A2, n2, c2, rfl⟩⟩ := h.form
  have F := (((Fr.refl (fun k => k < w.heap.size) w).alloc (.cells #[.bool b] 79)).alloc (.cells #[.bool (sg q), .slice A1 n1 c1, .slice A2 n2 c2] 25)).alloc (.cells #[.bool false, .slice none 0 0, .slice none 0 0] 25)
  go_enter Try.func66, Try.ntmps66
  cases b with
  | false =>
    have F' := (((Fr.refl (fun k => k < w.heap.size) w).alloc (.cells #[.bool false] 79)).alloc (.cells #[.bool (sg q), .slice A1 n1 c1, .slice A2 n2 c2] 25)).alloc (.cells #[.bool (sg q), .slice A1 n1 c1, .slice A2 n2 c2] 25)
    go_wp2_with fail
    refine bodyPost_ret (v := .agg #[.bool (sg q), .slice A1 n1 c1, .slice A2 n2 c2]) (by simp [results, Try.results66, go_sem]) rfl ?_
    exact ⟨_, _, rfl, (hq.keep F').mono fun k hk => .inl hk, F'⟩
  | true =>
    have hb := box_nz ((w.alloc (.cells #[.bool true] 79)).alloc (.cells #[.bool (sg q), .slice A1 n1 c1, .slice A2 n2 c2] 25))
    go_wp2_with fail
    refine (neg_n _ _ _ _ _ _ _ _ (h.keep F).ri hL1 hl).mono ?_
    rintro e w1 ⟨v1, v2, rfl, h1, hf⟩
    obtain ⟨⟨A3, n3, c3, rfl⟩, ⟨A4, n4, c4, rfl⟩⟩ := h1.form
    have s1 := hf.size
    simp only [World.size_alloc] at h1 s1 hb
    replace hb := hb.keep hf
    replace F := fr_then F hf
    clear hf h hq
    go_wp2_with ((with_reducible apply wpList_st3); rfl; rfl; exact hb; exact rat3; rfl; rfl; rfl; intro w9 B9 F9)
    refine bodyPost_ret (results_cell3 rfl rfl B9 Try.underlying25 rat3) rfl ?_
    exact ⟨_, _, rfl, (h1.out F9 (b := w.heap.size) (fun k hk => by omega) (by omega)).mono fun k hk => .inr hk, F.comp F9 fun k hk h => ⟨h, by omega⟩⟩
theorem take_z {S : Nat → Prop} (w : World) (b : Bool) (s : Bool) (vn vd : Value) (q z : Rat) (L : Nat) (hz : Hid ((if b then -q else q) = z)) (h : RV S w vn vd q L) (hs : s = sg q) (hL1 : 1 ≤ L) (hl : L ≤ 1048576000) :
    Calls Try.prog 66 #[.agg #[.bool b], .agg #[.bool s, vn, vd]] w fun e w' => ∃ v1 v2, e = .returned (.agg #[.bool (sg z), v1, v2]) ∧ RV (fun k => S k ∨ w.heap.size ≤ k) w' v1 v2 z L ∧ Fr (fun k => k < w.heap.size) w w' := by
  have := take_n w b s vn vd q L h hs hL1 hl
  rwa [hz.out] at this
end Go.Proofs.Ytodpbkcdcchljaa
