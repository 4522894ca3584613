
/- Rationals in memory; rat.Make, Norm. -/
import Derived.Test.YtodpbkcdcchljaaRatA
namespace Go.Proofs.Ytodpbkcdcchljaa
open Go.RowKit

/-- A rational as it is answered. -/
structure RV (S : Nat → Prop) (w : World) (vn vd : Value) (q : Rat) (L : Nat) : Prop where
  num : Can S w vn q.num.natAbs L
  den : Can S w vd q.den L
/-- A rational of whatever form: the sign's bool and two naturals that come to it. -/
structure RI (S : Nat → Prop) (w : World) (s : Bool) (vn vd : Value) (q : Rat) (N D L : Nat) : Prop where
  num : Num S w vn N L
  den : Num S w vd D L
  val : rv s N D = q
theorem RV.keep {S : Nat → Prop} {w w' : World} {vn vd : Value} {q : Rat} {L : Nat} (h : RV S w vn vd q L) (hf : Fr (fun k => k < w.heap.size) w w') : RV S w' vn vd q L := ⟨h.num.keep hf, h.den.keep hf⟩
theorem RV.mono {S T : Nat → Prop} {w : World} {vn vd : Value} {q : Rat} {L : Nat} (h : RV S w vn vd q L) (hs : ∀ k, S k → T k) : RV T w vn vd q L := ⟨h.num.mono hs, h.den.mono hs⟩
theorem RV.wide {S : Nat → Prop} {w : World} {vn vd : Value} {q : Rat} {L K : Nat} (h : RV S w vn vd q L) (hl : L ≤ K) : RV S w vn vd q K := ⟨h.num.wide hl, h.den.wide hl⟩
theorem RV.fr {S : Nat → Prop} {w w' : World} {vn vd : Value} {q : Rat} {L : Nat} (h : RV S w vn vd q L) (hf : Fr S w w') : RV S w' vn vd q L := ⟨h.num.fr hf, h.den.fr hf⟩
theorem RI.keep {S : Nat → Prop} {w w' : World} {s : Bool} {vn vd : Value} {q : Rat} {N D L : Nat} (h : RI S w s vn vd q N D L) (hf : Fr (fun k => k < w.heap.size) w w') : RI S w' s vn vd q N D L := ⟨h.num.keep hf, h.den.keep hf, h.val⟩
theorem Num.low {S : Nat → Prop} {w : World} {v : Value} {N L : Nat} (h : Num S w v N L) : Num (fun k => k < w.heap.size) w v N L := by
  obtain ⟨xs, h1, h2⟩ := h
  exact ⟨xs, h1.low Lm_pos, h2⟩
theorem Num.fr {S : Nat → Prop} {w w' : World} {v : Value} {N L : Nat} (h : Num S w v N L) (hf : Fr S w w') : Num S w' v N L := by
  obtain ⟨xs, h1, h2⟩ := h
  exact ⟨xs, h1.fr hf, h2⟩
theorem RI.low {S : Nat → Prop} {w : World} {s : Bool} {vn vd : Value} {q : Rat} {N D L : Nat} (h : RI S w s vn vd q N D L) : RI (fun k => k < w.heap.size) w s vn vd q N D L := ⟨h.num.low, h.den.low, h.val⟩
theorem RI.fr {S : Nat → Prop} {w w' : World} {s : Bool} {vn vd : Value} {q : Rat} {N D L : Nat} (h : RI S w s vn vd q N D L) (hf : Fr S w w') : RI S w' s vn vd q N D L := ⟨h.num.fr hf, h.den.fr hf, h.val⟩
theorem RI.wide {S : Nat → Prop} {w : World} {s : Bool} {vn vd : Value} {q : Rat} {N D L K : Nat} (h : RI S w s vn vd q N D L) (hl : L ≤ K) : RI S w s vn vd q N D K := ⟨h.num.wide hl, h.den.wide hl, h.val⟩
theorem RV.ri {S : Nat → Prop} {w : World} {vn vd : Value} {q : Rat} {L : Nat} (h : RV S w vn vd q L) : RI S w (sg q) vn vd q q.num.natAbs q.den L := ⟨h.num.num, h.den.num, rv_self q⟩
/-- its inverse -/
theorem RV.inv {S : Nat → Prop} {w : World} {vn vd : Value} {q : Rat} {L : Nat} (h : RV S w vn vd q L) : RI S w (sg q) vd vn q⁻¹ q.den q.num.natAbs L := ⟨h.den.num, h.num.num, rv_inv q⟩
theorem RI.form {S : Nat → Prop} {w : World} {s : Bool} {vn vd : Value} {q : Rat} {N D L : Nat} (h : RI S w s vn vd q N D L) : (∃ A n c, vn = .slice A n c) ∧ ∃ A n c, vd = .slice A n c := ⟨h.num.form, h.den.form⟩
theorem RV.form {S : Nat → Prop} {w : World} {vn vd : Value} {q : Rat} {L : Nat} (h : RV S w vn vd q L) : (∃ A n c, vn = .slice A n c) ∧ ∃ A n c, vd = .slice A n c := ⟨h.num.form, h.den.form⟩
theorem Can.tight {S : Nat → Prop} {w : World} {v : Value} {N L K : Nat} (h : Can S w v N L) (hl : N < LB ^ K) : Can S w v N K := ⟨h.own, dg_len_le LB2 hl⟩
theorem Can.one {S : Nat → Prop} {w : World} {v : Value} {L K : Nat} (h : Can S w v 1 L) (hk : 1 ≤ K) : Can S w v 1 K := h.tight (Nat.lt_of_lt_of_le (show 1 < LB ^ 1 by decide) (Nat.pow_le_pow_right LBpos hk))
theorem RV.zero {S : Nat → Prop} {w : World} {v : Value} {L : Nat} (h : Can S w v 1 L) : RV S w (.slice none 0 0) v 0 L := ⟨⟨by rw [show (0 : Rat).num.natAbs = 0 from rfl, dg_zero]; exact Own.nil _ _ _ _, by rw [show (0 : Rat).num.natAbs = 0 from rfl, dg_zero]; exact Nat.zero_le _⟩, h⟩

theorem Can.out {a b : Nat} {R : Nat → Prop} {w w' : World} {v : Value} {N L : Nat} (h : Can (fun k => a ≤ k) w v N L) (hf : Fr R w w') (hr : ∀ k, a ≤ k → R k) (hb : b ≤ a) : Can (fun k => b ≤ k) w' v N L :=
  (h.fr (hf.mono fun k _ hk => hr k hk)).mono fun _ hk => Nat.le_trans hb hk
theorem RV.out {a b : Nat} {R : Nat → Prop} {w w' : World} {vn vd : Value} {q : Rat} {L : Nat} (h : RV (fun k => a ≤ k) w vn vd q L) (hf : Fr R w w') (hr : ∀ k, a ≤ k → R k) (hb : b ≤ a) : RV (fun k => b ≤ k) w' vn vd q L :=
  ⟨h.num.out hf hr hb, h.den.out hf hr hb⟩

theorem blen_eq0 (n : Nat) : ((blen n : Int) == 0) = decide (n = 0) := by
  rcases Nat.eq_zero_or_pos n with rfl | h
  · rw [blen_zero]; rfl
  · obtain ⟨k, hk, _, _⟩ := blen_pos h
    rw [hk, decide_eq_false (by omega)]
    exact beq_eq_false_iff_ne.2 (by omega)

/-- the world with the result's block laid -/
def nz (w : World) : World := w.alloc (.cells #[.bool false, .slice none 0 0, .slice none 0 0] 25)
theorem fr_nz (S : Nat → Prop) (w : World) : Fr S w (w.alloc (.cells #[.bool false, .slice none 0 0, .slice none 0 0] 25)) := (Fr.refl _ _).alloc _
theorem box_nz (w : World) : Box3 (w.alloc (.cells #[.bool false, .slice none 0 0, .slice none 0 0] 25)) w.heap.size 25 (.bool false) (.slice none 0 0) (.slice none 0 0) := Box3.new _ _ _ _ _

set_option maxHeartbeats 1000000 in
theorem make_0 {S T : Nat → Prop} (w : World) (s : Bool) (vn vd : Value) (N L K : Nat) (_ : Num S w vn N L) (hd : Num T w vd 0 K) (hk : K ≤ 1048576000) :
    Calls Try.prog 19 #[.bool s, vn, vd] w fun e w' => e = .returned (.tuple #[.agg #[.bool false, .slice none 0 0, .slice none 0 0], .int .i64 17]) ∧ Fr (fun k => k < w.heap.size) w w' := by
  have p1 := bits_n _ _ _ _ (hd.keep (fr_nz _ w)) (by omega)
  rw [blen_zero] at p1
  go_enter Try.func19, Try.ntmps19
  go_wp2_with fail
  refine p1.mono ?_
  rintro e w1 ⟨rfl, rfl⟩
  clear p1 hd
  go_wp2_with fail
  refine bodyPost_ret (results_cell3_tmp rfl rfl (box_nz w) Try.underlying25 rat3) rfl ?_
  exact ⟨rfl, fr_nz _ w⟩

set_option maxHeartbeats 1000000 in
theorem make_n {S T : Nat → Prop} (w : World) (s : Bool) (vn vd : Value) (N D L : Nat) (hn : Num S w vn N L) (hd : Num T w vd D L) (hD : 0 < D) (hL1 : 1 ≤ L) (hl : L ≤ 1048576000) :
    Calls Try.prog 19 #[.bool s, vn, vd] w fun e w' => ∃ v1 v2, e = .returned (.tuple #[.agg #[.bool (sg (rv s N D)), v1, v2], .int .i64 0]) ∧ RV (fun k => w.heap.size ≤ k) w' v1 v2 (rv s N D) L ∧ Fr (fun k => k < w.heap.size) w w' := by
  have p1 := bits_n _ _ _ _ (hd.keep (fr_nz _ w)) (by omega)
  have p2 := bits_n _ _ _ _ (hn.keep (fr_nz _ w)) (by omega)
  have hn0 := hn.keep (fr_nz _ w)
  have hd0 := hd.keep (fr_nz _ w)
  have hb := box_nz w
  have F := fr_nz (fun k => k < w.heap.size) w
  have e1 : ((blen D : Int) == 0) = false := by rw [blen_eq0, decide_eq_false (by omega)]
  go_enter Try.func19, Try.ntmps19
  rcases Nat.eq_zero_or_pos N with rfl | h0
  · rw [blen_zero] at p2
    rw [rv_num0, sg_zero]
    go_wp2_with fail
    refine p1.mono ?_
    rintro e w1 ⟨rfl, rfl⟩
    go_wp2_with fail
    refine p2.mono ?_
    rintro e w1 ⟨rfl, rfl⟩
    clear p1 p2
    go_wp2_with fail
    refine (one_n _).mono ?_
    rintro e w1 ⟨v1, rfl, h1, hf⟩
    obtain ⟨A1, n1, c1, rfl⟩ := h1.form
    replace F := fr_then F hf
    replace hb := hb.keep hf
    clear hn hd hn0 hd0 hf
    have s1 := F.size
    go_wp2_with ((with_reducible apply wpList_st3); rfl; rfl; assumption; exact rat3; rfl; rfl; rfl; intro w9 B9 F9)
    refine bodyPost_ret (results_cell3_tmp rfl rfl B9 Try.underlying25 rat3) rfl ?_
    refine ⟨_, _, rfl, ?_, F.comp F9 fun k hk h => ⟨h, by omega⟩⟩
    simp only [World.size_alloc] at h1
    exact (RV.zero (((h1.one hL1).mono (T := fun k => w.heap.size + 1 ≤ k) fun k hk => hk).fr (F9.mono fun k _ hk => by omega))).mono fun k hk => by omega
  · rw [rv_sg hD h0]
    have hgp : 0 < Nat.gcd N D := Nat.gcd_pos_of_pos_left _ h0
    have e2 : ((blen N : Int) == 0) = false := by rw [blen_eq0, decide_eq_false (by omega)]
    go_wp2_with fail
    refine p1.mono ?_
    rintro e w1 ⟨rfl, rfl⟩
    go_wp2_with fail
    refine p2.mono ?_
    rintro e w1 ⟨rfl, rfl⟩
    clear p1 p2
    go_wp2_with fail
    refine (gcd_n _ _ _ _ _ _ hn0 hd0 hl).mono ?_
    rintro e w1 ⟨v1, rfl, h1, hf⟩
    obtain ⟨A1, n1, c1, rfl⟩ := h1.form
    replace F := fr_then F hf
    replace hb := hb.keep hf
    replace hn0 := hn0.keep hf
    replace hd0 := hd0.keep hf
    clear hn hd hf
    simp only [World.size_alloc] at h1
    have s0 := hb.lt
    have hx := Box.new w1 23 (.slice A1 n1 c1)
    have G := (Fr.refl (fun k => k < w1.heap.size) w1).alloc (.cells #[.slice A1 n1 c1] 23)
    have h1' := h1.keep G
    go_wp2_with fail
    refine (part_n _ _ _ _ _ _ _ _ (hn0.keep G) h1'.num hx hgp hl hl).mono ?_
    rintro e w2 ⟨v2, rfl, h2, hf⟩
    obtain ⟨A2, n2, c2, rfl⟩ := h2.form
    replace G := fr_then G hf
    have s4 := G.size
    replace hx := hx.fr hf (by simp)
    replace h1' := h1'.keep hf
    simp only [World.size_alloc] at h2
    clear hf
    go_wp2_with fail
    refine (part_n _ _ _ _ _ _ _ _ (hd0.keep G) h1'.num hx hgp hl hl).mono ?_
    rintro e w3 ⟨v3, rfl, h3, hf⟩
    obtain ⟨A3, n3, c3, rfl⟩ := h3.form
    replace G := fr_then G hf
    replace h2 := h2.keep hf
    replace hb := hb.keep G
    replace F := fr_then F G
    have s1 := F.size
    have s2 := G.size
    have s3 := hf.size
    clear hf h1' h1 hn0 hd0 hx G
    go_wp2_with ((with_reducible apply wpList_st3); rfl; rfl; assumption; exact rat3; rfl; rfl; rfl; intro w9 B9 F9)
    refine bodyPost_ret (results_cell3_tmp rfl rfl B9 Try.underlying25 rat3) rfl ?_
    refine ⟨_, _, rfl, ⟨?_, ?_⟩, F.comp F9 fun k hk h => ⟨h, by omega⟩⟩
    · rw [rv_num hD]
      exact ((h2.mono (T := fun k => w.heap.size + 1 ≤ k) fun k hk => by omega).fr (F9.mono fun k _ hk => by omega)).mono fun k hk => by omega
    · rw [rv_den hD]
      exact ((h3.mono (T := fun k => w.heap.size + 1 ≤ k) fun k hk => by omega).fr (F9.mono fun k _ hk => by omega)).mono fun k hk => by omega

theorem make_q {S T : Nat → Prop} (w : World) (s : Bool) (vn vd : Value) (N D L : Nat) (q : Rat) (hq : Hid (rv s N D = q)) (hn : Num S w vn N L) (hd : Num T w vd D L) (hD : 0 < D) (hL1 : 1 ≤ L) (hl : L ≤ 1048576000) :
    Calls Try.prog 19 #[.bool s, vn, vd] w fun e w' => ∃ v1 v2, e = .returned (.tuple #[.agg #[.bool (sg q), v1, v2], .int .i64 0]) ∧ RV (fun k => w.heap.size ≤ k) w' v1 v2 q L ∧ Fr (fun k => k < w.heap.size) w w' := by
  have := make_n w s vn vd N D L hn hd hD hL1 hl
  rwa [hq.out] at this

set_option maxHeartbeats 1000000 in
theorem norm_n {S : Nat → Prop} (w : World) (s : Bool) (vn vd : Value) (q : Rat) (N D L : Nat) (h : RI S w s vn vd q N D L) (hL1 : 1 ≤ L) (hl : L ≤ 1048576000) :
    Calls Try.prog 12 #[.agg #[.bool s, vn, vd]] w fun e w' => ∃ v1 v2, e = .returned (.agg #[.bool (sg q), v1, v2]) ∧ RV (fun k => w.heap.size ≤ k) w' v1 v2 q L ∧ Fr (fun k => k < w.heap.size) w w' := by
  obtain ⟨⟨A1, n1, c1, rfl⟩, ⟨A2, n2, c2, rfl⟩⟩ := h.form
  have F := ((Fr.refl (fun k => k < w.heap.size) w).alloc (.cells #[.bool s, .slice A1 n1 c1, .slice A2 n2 c2] 25)).alloc (.cells #[.bool false, .slice none 0 0, .slice none 0 0] 25)
  have hb := box_nz (w.alloc (.cells #[.bool s, .slice A1 n1 c1, .slice A2 n2 c2] 25))
  have h0 := h.keep F
  simp only [World.size_alloc] at hb
  go_enter Try.func12, Try.ntmps12
  rcases Nat.eq_zero_or_pos D with rfl | hD
  · obtain rfl : 0 = q := by rw [← h.val, rv_den0]
    go_wp2_with fail
    refine (make_0 _ _ _ _ _ _ _ h0.num h0.den hl).mono ?_
    rintro e w1 ⟨rfl, hf⟩
    replace F := fr_then F hf
    replace hb := hb.keep hf
    have s1 := hf.size
    clear hf h h0
    go_wp2_with fail
    refine (one_n _).mono ?_
    rintro e w2 ⟨v1, rfl, h1, hf⟩
    obtain ⟨A3, n3, c3, rfl⟩ := h1.form
    replace F := fr_then (F.alloc (.cells #[.bool false, .slice none 0 0, .slice none 0 0] 25)) hf
    replace hb := (hb.alloc _).keep hf
    have s2 := hf.size
    simp only [World.size_alloc] at h1 s1 s2
    clear hf
    go_wp2_with ((with_reducible apply wpList_st3); rfl; rfl; assumption; exact rat3; rfl; rfl; rfl; intro w9 B9 F9)
    refine bodyPost_ret (results_cell3 rfl rfl B9 Try.underlying25 rat3) rfl ?_
    refine ⟨_, _, rfl, ?_, F.comp F9 fun k hk h => ⟨h, by omega⟩⟩
    exact (RV.zero (((h1.one hL1).mono (T := fun k => w.heap.size + 2 ≤ k) fun k hk => by omega).fr (F9.mono fun k _ hk => by omega))).mono fun k hk => by omega
  · go_wp2_with fail
    refine (make_n _ _ _ _ _ _ _ h0.num h0.den hD hL1 hl).mono ?_
    rintro e w1 ⟨v1, v2, rfl, h1, hf⟩
    obtain ⟨⟨A3, n3, c3, rfl⟩, ⟨A4, n4, c4, rfl⟩⟩ := h1.form
    replace F := fr_then F hf
    replace hb := hb.keep hf
    rw [h.val] at h1 ⊢
    have s1 := hf.size
    simp only [World.size_alloc] at h1 s1
    clear hf h h0
    have B1 := hb.alloc (.cells #[.bool (sg q), .slice A3 n3 c3, .slice A4 n4 c4] 25)
    have F1 := F.alloc (.cells #[.bool (sg q), .slice A3 n3 c3, .slice A4 n4 c4] 25)
    have h2 := h1.fr ((Fr.refl _ _).alloc (.cells #[.bool (sg q), .slice A3 n3 c3, .slice A4 n4 c4] 25))
    clear F hb h1
    go_wp2_with ((with_reducible apply wpList_st3); rfl; rfl; assumption; exact rat3; rfl; rfl; rfl; intro w9 B9 F9)
    refine bodyPost_ret (results_cell3 rfl rfl B9 Try.underlying25 rat3) rfl ?_
    refine ⟨_, _, rfl, ?_, F1.comp F9 fun k hk h => ⟨h, by omega⟩⟩
    exact ((h2.mono (T := fun k => w.heap.size + 2 ≤ k) fun k hk => by omega).fr (F9.mono fun k _ hk => by omega)).mono fun k hk => by omega
end Go.Proofs.Ytodpbkcdcchljaa
