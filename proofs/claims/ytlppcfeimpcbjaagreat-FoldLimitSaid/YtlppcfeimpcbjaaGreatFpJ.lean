import Derived.Test.YtlppcfeimpcbjaaGreatFpG
import Derived.Test.YtlppcfeimpcbjaaGreatFpB
set_option linter.unusedSimpArgs false
set_option linter.unusedVariables false

/- FoldLimit: printed by gen_fpj.py. -/
namespace Go.Proofs.YtlppcfeimpcbjaaGreat
open Go.RowKit Go.Shelf

theorem rint_q1 (w : World) (z : Int) (h0 : -9223372036854775808 ≤ z) (h1 : z ≤ 9223372036854775807) : Calls Tryz.prog 29 #[.int .i64 z] w (Ret w (RQ (z : Rat) 6)) := by
  refine (rint_s w z h0 h1).mono ?_
  rintro e u ⟨s, v1, v2, rfl, hs, hr, hf⟩
  obtain ⟨⟨A, n, c, rfl⟩, ⟨B, m, k, rfl⟩⟩ := hr.out.form
  rw [hs.out]
  exact ⟨_, rfl, hf, fun u' hu' => ⟨_, _, _, _, _, _, rfl, (hr.out.keep hu').mono fun _ _ => trivial⟩⟩

set_option maxRecDepth 20000 in
set_option maxHeartbeats 16000000 in
theorem col_t {S : Nat → Prop} (w : World) (n bo : Nat) (q : Rat) (vn vd : Value) (hn : n ≤ 1000) (hb : Box3 w bo 54 (.bool (sg q)) vn vd) (h1 : Sl Lm S w vn (dg LB q.num.natAbs)) (h2 : Sl Lm S w vd (dg LB q.den)) :
    Calls Tryz.prog 30 #[.int .i64 (n : Int), .pointer (some ⟨bo, 0, none⟩)] w (Ret w (Agg (TV [(n : Int), 1] ((List.replicate n q).map canR)))) := by
  refine Calls.mono (show Calls Tryz.prog 30 #[.int .i64 (n : Int), .pointer (some ⟨bo, 0, none⟩)] w (fun e w' => ∃ A i j B k l, e = .returned (.agg #[.slice A i j, .slice B k l]) ∧ Sl Im (fun _ => True) w' (.slice A i j) [(n : Int), 1] ∧ Sl Rm (fun _ => True) w' (.slice B k l) ((List.replicate n q).map canR) ∧ Fr (fun k => k < w.heap.size) w w') from ?_) fun e u h => by
    obtain ⟨A, i, j, B, k, l, rfl, h1, h2, hf⟩ := h
    exact ⟨_, rfl, hf, fun u' hu' => ⟨_, _, _, _, _, _, rfl, h1.keep' Im_pos hu', h2.keep' Rm_pos hu'⟩⟩
  obtain ⟨P, c1, rfl, _, _, _⟩ := h1.slice
  obtain ⟨Q, c2, rfl, _, _, _⟩ := h2.slice
  have H1 := Lib.hid (h1.low Lm_pos)
  have H2 := Lib.hid (h2.low Lm_pos)
  have hbo := hb.lt
  clear h1 h2
  have F := (((Fr.refl (fun k => k < w.heap.size) w).alloc (.cells #[.slice none 0 0, .slice none 0 0] 26)).alloc (.cells #[.int .i64 (n : Int), .int .i64 1] 3)).alloc (.cells #[.slice (some ⟨w.heap.size + 1, 0, none⟩) 2 2, .slice none 0 0] 26)
  have x6 := ((Box2.new w 26 (.slice none 0 0) (.slice none 0 0)).alloc (.cells #[.int .i64 (n : Int), .int .i64 1] 3)).alloc (.cells #[.slice (some ⟨w.heap.size + 1, 0, none⟩) 2 2, .slice none 0 0] 26)
  have oS := (Own.ints (e := 3) (S := fun k => k = w.heap.size + 1) (w.alloc (.cells #[.slice none 0 0, .slice none 0 0] 26)) [(n : Int), 1] #[.int .i64 (n : Int), .int .i64 1] rfl (by intro x hx; rcases List.mem_cons.1 hx with rfl | hx; omega; rw [List.mem_singleton] at hx; omega) (by simp) (by rw [World.size_alloc])).keep' ((Fr.refl (fun k => k < ((w.alloc (.cells #[.slice none 0 0, .slice none 0 0] 26)).alloc (.cells #[.int .i64 (n : Int), .int .i64 1] 3)).heap.size) _).alloc (.cells #[.slice (some ⟨w.heap.size + 1, 0, none⟩) 2 2, .slice none 0 0] 26))
  have x7 := Box2.new ((w.alloc (.cells #[.slice none 0 0, .slice none 0 0] 26)).alloc (.cells #[.int .i64 (n : Int), .int .i64 1] 3)) 26 (.slice (some ⟨w.heap.size + 1, 0, none⟩) 2 2) (.slice none 0 0)
  simp only [World.size_alloc] at x7 oS
  have hb0 := hb.keep F
  replace H1 := Lib.hid (H1.out.fr F)
  replace H2 := Lib.hid (H2.out.fr F)
  clear hb
  go_enter Tryz.func30, Tryz.ntmps30
  go_wp2_with fail
  generalize (((w.alloc (.cells #[.slice none 0 0, .slice none 0 0] 26)).alloc (.cells #[.int .i64 (n : Int), .int .i64 1] 3)).alloc (.cells #[.slice (some ⟨w.heap.size + 1, 0, none⟩) 2 2, .slice none 0 0] 26)) = V at x6 x7 oS F hb0 H1 H2 ⊢
  obtain ⟨b7, hb7⟩ : ∃ b, w.heap.size + 1 + 1 = b := ⟨_, rfl⟩
  have hbl : w.heap.size + 2 ≤ b7 := Nat.le_of_eq hb7
  simp only [show w.heap.size + 2 = w.heap.size + 1 + 1 from rfl, hb7] at x7 ⊢
  clear hb7
  have lV := x7.lt
  go_loopw [5] (fun k W => ∃ (j : Nat) (v1 : Value), k = .int .i64 j ∧ j ≤ n ∧ Box2 W b7 26 (.slice (some ⟨w.heap.size + 1, 0, none⟩) 2 2) v1 ∧ Own Rm 54 (fun k => k < w.heap.size ∨ V.heap.size ≤ k) W v1 ((List.replicate j q).map canR) ∧ (∀ g, v1.ownBlock = some g → V.heap.size ≤ g) ∧ Fr (fun k => k < V.heap.size ∧ k ≠ b7) V W) (fun k _ => n - (intOf k).toNat)
  case atStart => exact ⟨0, _, rfl, by omega, x7, Own.nil _ _ _ _, fun g h => by simp [Value.ownBlock] at h, Fr.refl _ _⟩
  case round =>
    clear x7
    obtain ⟨j, v1, rfl, hj, x7, o1, hob, GV⟩ := hrel
    obtain ⟨A3, i3, j3, rfl⟩ := o1.form
    have szW := GV.size
    by_cases hlt : j < n
    case neg =>
      obtain rfl : j = n := by omega
      have y6 := x6.fr GV ⟨by omega, by omega⟩
      have oS9 := oS.past GV fun k hk => ⟨by omega, by omega⟩
      have g0 := x7.c0
      have g1 := x7.c1
      go_wp2_with ((with_reducible apply wpList_st2); rfl; rfl; exact y6; exact ten2; rfl; rfl; intro w9 B9 F9)
      refine bodyPost_ret (results_cell2 rfl rfl B9 Tryz.underlying26 ten2) rfl ?_
      have F8 := F.comp GV (R := fun k => k < w.heap.size) fun k _ hk => ⟨hk, by omega, by omega⟩
      exact ⟨_, _, _, _, _, _, rfl, ((oS9.past F9 fun k hk => by omega).sl).any, ((o1.past F9 fun k hk => by omega).sl).any, F8.comp F9 fun k _ hk => ⟨hk, by omega⟩⟩
    case pos =>
      have ob := hb0.fr GV ⟨by omega, by omega⟩
      have k0 := ob.c0
      have k1 := ob.c1
      have k2 := ob.c2
      have g1 := x7.c1
      have HR := Lib.hid (show Rm.rd (fun k => k < w.heap.size) wr (canR q) [.bool (sg q), .slice P (dg LB q.num.natAbs).length c1, .slice Q (dg LB q.den).length c2] from ⟨_, _, rfl, H1.out.fr (GV.mono fun k _ hk => ⟨by omega, by omega⟩), H2.out.fr (GV.mono fun k _ hk => ⟨by omega, by omega⟩)⟩)
      have hn7 : some b7 ≠ (Value.slice A3 i3 j3).ownBlock := fun e => by have := hob _ e.symm; omega
      have HT : Hid (∀ k, k < w.heap.size → k < wr.heap.size → (k < w.heap.size ∨ V.heap.size ≤ k) ∧ some k ≠ (Value.slice A3 i3 j3).ownBlock) := Lib.hid fun k hk _ => ⟨.inl hk, fun e => by have := hob _ e.symm; omega⟩
      have HLn := Lib.hid (show (((List.replicate j q).map canR).length + 1) * 56 ≤ 140737488355328 ∧ ((List.replicate j q).map canR).length + 1 ≤ 9223372036854775807 by rw [List.length_map, List.length_replicate]; omega)
      go_wp2_with (at_builtin; refine wpList_push1 (v := .slice A3 i3 j3) rmT rfl rfl rfl rfl o1 HR.out HT.out (fun k hk => .inr (by omega)) HLn.out.1 HLn.out.2 ?_; intro v' w1 hown hfr hat; obtain ⟨B3, n3, d3, rfl⟩ := hown.form; have y7 := x7.fr hfr hn7; have e0 := y7.c1; have e1 := y7.free 1)
      have F9 := fr_set1 w1 b7 1 (.slice B3 n3 d3)
      have y9 := y7.set1 (.slice B3 n3 d3)
      have hob' : ∀ g, (Value.slice B3 n3 d3).ownBlock = some g → V.heap.size ≤ g := fun g hg => by
        rcases hat with h | ⟨b, h, hb⟩
        · exact hob g (h ▸ hg)
        · rw [h] at hg
          cases hg
          omega
      have o9 := hown.past F9 (fun k hk => by omega)
      rw [show (List.replicate j q).map canR ++ [canR q] = (List.replicate (j + 1) q).map canR by rw [List.replicate_succ', List.map_append]; rfl] at o9
      have G9 := (GV.comp hfr (R := fun k => k < V.heap.size ∧ k ≠ b7) fun k _ hk => ⟨hk, fun e => by have := hob _ e.symm; omega⟩).comp F9 (R := fun k => k < V.heap.size ∧ k ≠ b7) fun k _ hk => ⟨hk, hk.2⟩
      clear e0 e1
      go_wp2_with fail
      go_roundw
      case rel => exact ⟨j + 1, _, by go_num, by omega, y9, o9, hob', G9⟩
      case measure => first | (simp [intOf]; done) | (simp [intOf]; omega)
theorem dims2 {a b : Nat} (ha : 1 ≤ a) (hb : 1 ≤ b) : ∀ d ∈ [(a : Int), (b : Int)], 1 ≤ d := fun d hd => by
  rcases List.mem_cons.1 hd with rfl | hd
  · omega
  · rw [List.mem_singleton] at hd; omega
theorem ones_kf {n : Nat} (h1 : 1 ≤ n) (hn : n ≤ 1000) : KF [(n : Int), 1] (List.replicate n (1 : Rat)) 1 ∧ KF [1, (n : Int)] (List.replicate n (1 : Rat)) 1 := by
  have hl : LensL 1 (List.replicate n (1 : Rat)) := fun q hq => by rw [List.eq_of_mem_replicate hq]; exact lens_1 (by decide)
  refine ⟨⟨by simp, by simp; omega, mayT_can (mayS_0 (by simp) (dims2 (b := 1) h1 (by decide)) (by simp [pr]; omega)) (by simp [pr]), hl, by decide, by decide⟩, ⟨by simp, by simp; omega, mayT_can (mayS_0 (by simp) (dims2 (a := 1) (by decide) h1) (by simp [pr]; omega)) (by simp [pr]), hl, by decide, by decide⟩⟩
set_option maxHeartbeats 4000000 in
theorem turn_t {n m : Int} {es : List RatL} {a b : Value} (w : World) (h : TV [n, m] es w a b) (hn : -9223372036854775808 ≤ n ∧ n < 9223372036854775808) : Calls Tryz.prog 31 #[.agg #[a, b]] w (Ret w (Agg (TV [1, n] es))) := by
  refine Calls.mono (show Calls Tryz.prog 31 #[.agg #[a, b]] w (fun e w' => ∃ A i j B k l, e = .returned (.agg #[.slice A i j, .slice B k l]) ∧ Sl Im (fun _ => True) w' (.slice A i j) [1, n] ∧ Sl Rm (fun _ => True) w' (.slice B k l) es ∧ Fr (fun k => k < w.heap.size) w w') from ?_) fun e u h => by
    obtain ⟨A, i, j, B, k, l, rfl, h1, h2, hf⟩ := h
    exact ⟨_, rfl, hf, fun u' hu' => ⟨_, _, _, _, _, _, rfl, h1.keep' Im_pos hu', h2.keep' Rm_pos hu'⟩⟩
  obtain ⟨A, c, rfl, _, _, _⟩ := h.1.slice
  obtain ⟨B, d, rfl, _, _, _⟩ := h.2.slice
  have F := ((Fr.refl (fun k => k < w.heap.size) w).alloc (.cells #[.slice A [n, m].length c, .slice B es.length d] 26)).alloc (.cells #[.slice none 0 0, .slice none 0 0] 26)
  have x1 := (Box2.new w 26 (.slice A [n, m].length c) (.slice B es.length d)).alloc (.cells #[.slice none 0 0, .slice none 0 0] 26)
  have x2 := Box2.new (w.alloc (.cells #[.slice A [n, m].length c, .slice B es.length d] 26)) 26 (.slice none 0 0) (.slice none 0 0)
  simp only [World.size_alloc] at x2
  have hE := Lib.hid (h.2.low Rm_pos)
  obtain ⟨ad, hA, hx, hr1, hr2⟩ := Kd.int_cell (xs := [n, m]) ((h.1.low Im_pos).fr F) (i := 0) (by simp)
  subst hA
  clear h
  simp only [List.length_cons, List.length_nil, Nat.zero_add, Nat.reduceAdd, List.getElem_cons_zero] at x1 x2 hE hx F ⊢
  rw [addr_zero] at hx
  clear hr1 hr2
  have al := fun R => (Fr.refl R ((w.alloc (.cells #[.slice (some ad) 2 c, .slice B es.length d] 26)).alloc (.cells #[.slice none 0 0, .slice none 0 0] 26))).alloc (.cells #[.int .i64 1, .int .i64 n] 3)
  have k0 := x1.c0
  have k1 := x1.c1
  go_enter Tryz.func31, Tryz.ntmps31
  have y1 := x1.keep (al _)
  have y2 := x2.keep (al _)
  have e0 := y1.c0
  have e1 := y1.free 0
  go_wp2_with fail
  have oS := Own.ints (e := 3) (S := fun k => k = w.heap.size + 1 + 1) ((w.alloc (.cells #[.slice (some ⟨w.heap.size + 1 + 1, 0, none⟩) 2 2, .slice B es.length d] 26)).alloc (.cells #[.slice (some ⟨w.heap.size + 1 + 1, 0, none⟩) 2 2, .slice B es.length d] 26)) [1, n] #[.int .i64 1, .int .i64 n] rfl (by intro x hx; rcases List.mem_cons.1 hx with rfl | hx; omega; rw [List.mem_singleton] at hx; omega) (by simp) (by rw [World.size_alloc, World.size_alloc])
  rw [World.size_alloc, World.size_alloc] at oS
  have B9 := (Box2.new (w.alloc (.cells #[.slice (some ⟨w.heap.size + 1 + 1, 0, none⟩) 2 2, .slice B es.length d] 26)) 26 (.slice (some ⟨w.heap.size + 1 + 1, 0, none⟩) 2 2) (.slice B es.length d)).alloc (.cells #[.int .i64 1, .int .i64 n] 3)
  rw [World.size_alloc] at B9
  have F9 := (((Fr.refl (fun k => k < w.heap.size) w).alloc (.cells #[.slice (some ⟨w.heap.size + 1 + 1, 0, none⟩) 2 2, .slice B es.length d] 26)).alloc (.cells #[.slice (some ⟨w.heap.size + 1 + 1, 0, none⟩) 2 2, .slice B es.length d] 26)).alloc (.cells #[.int .i64 1, .int .i64 n] 3)
  refine bodyPost_ret (results_cell2 rfl rfl B9 Tryz.underlying26 ten2) rfl ?_
  exact ⟨_, _, _, _, _, _, rfl, oS.sl.any, (hE.out.fr F9).any, F9⟩
theorem col_c {S : Nat → Prop} (w : World) (n bo : Nat) (z : Int) (hz : z = (n : Int)) (q : Rat) (vn vd : Value) (hn : n ≤ 1000) (hb : Box3 w bo 54 (.bool (sg q)) vn vd) (h1 : Sl Lm S w vn (dg LB q.num.natAbs)) (h2 : Sl Lm S w vd (dg LB q.den)) :
    Calls Tryz.prog 30 #[.int .i64 z, .pointer (some ⟨bo, 0, none⟩)] w (Ret w (Agg (TV [z, 1] ((List.replicate n q).map canR)))) := by
  subst hz
  exact col_t w n bo q vn vd hn hb h1 h2
theorem gem_e {w : World} {sha shb shc : List Int} {ea eb ec : List RatL} {a b c d e f : Value} {L : Nat} {r : Int} (h : TV sha ea w a b) (g : TV shb eb w c d) (k : TV shc ec w e f) (fa : Hid (Fit sha ea L)) (fb : Hid (Fit shb eb L)) (fc : Hid (Fit shc ec L)) (hr : Hid (gemE sha ea shb eb shc ec = r)) (h0 : r ≠ 0) (hm : mmE sha ea shb eb ≠ 0) :
    Calls Tryz.prog 26 #[.agg #[a, b], .agg #[c, d], .agg #[e, f]] w (Ret w (Tup r (TC r [] []))) := by
  have ht := fa.out.top
  refine (gemm_t w a b c d e f sha shb shc ea eb ec L (6 * L) r hr h.1 h.2 g.1 g.2 k.1 k.2 fa.out.lx fb.out.lx fc.out.lx fa.out.one (Nat.le_refl _) (by omega) (Lib.hid fun h => absurd h hm) _ (Lib.hid rfl) _ _ (Lib.hid rfl) (Lib.hid rfl)).mono fun _ _ h => ?_
  obtain ⟨A, i, j, B, k, l, rfl, h1, _, hf⟩ := h
  exact ⟨_, rfl, hf, fun u' hu' => ⟨_, _, _, _, _, _, rfl, h1, fun e => absurd e h0⟩⟩
theorem len_of {S : Nat → Prop} {w : World} {A : Option Addr} {n c : Nat} {xs : List RatL} (h : Sl Rm S w (.slice A n c) xs) : n = xs.length := by
  obtain ⟨_, _, e, _⟩ := h.slice
  cases e
  rfl
theorem rint_1 (w : World) : Calls Tryz.prog 29 #[.int .i64 1] w (Ret w (RQ 1 6)) := rint_q1 w 1 (by decide) (by decide)
abbrev onesL (n : Nat) : List RatL := (List.replicate n (1 : Rat)).map canR

set_option maxRecDepth 20000 in
set_option maxHeartbeats 32000000 in
theorem flimit_walk (w : World) :
    Calls Tryz.prog 7 #[] w fun e w' => e = .returned (.bool true) ∧ Fr (fun k => k < w.heap.size) w w' := by
  have F := Fr.refl (fun k => k < w.heap.size) w
  have K32 := Lib.hid (ones_kf (n := 32) (by decide) (by decide))
  have K33 := Lib.hid (ones_kf (n := 33) (by decide) (by decide))
  have K7 := Lib.hid (ones_kf (n := 7) (by decide) (by decide))
  have F32 : Hid (Fit [32, 1] (onesL 32) 1) := Lib.hid K32.out.1.fit
  have F33 : Hid (Fit [33, 1] (onesL 33) 1) := Lib.hid K33.out.1.fit
  have F7 : Hid (Fit [7, 1] (onesL 7) 1) := Lib.hid K7.out.1.fit
  have R32 : Hid (Fit [1, 32] (onesL 32) 1) := Lib.hid K32.out.2.fit
  have M1 : Hid (mmE [32, 1] (onesL 32) [1, 32] (onesL 32) = 0) := Lib.hid ((mm_rm K32.out.1.may K32.out.2.may).trans (by decide))
  have M2 : Hid (mmE [33, 1] (onesL 33) [1, 32] (onesL 32) = 14) := Lib.hid ((mm_rm K33.out.1.may K32.out.2.may).trans (by decide))
  have M3 : Hid (gemE [33, 1] (onesL 33) [1, 32] (onesL 32) [7, 1] (onesL 7) = 14) := Lib.hid ((gemE_m K33.out.1.may K32.out.2.may K7.out.1.may (fun e => absurd (M2.out.symm.trans e) (by decide))).trans M2.out)
  have M4 : Hid (mmE [33, 1] (onesL 33) [1, 32] (onesL 32) ≠ 0) := Lib.hid (fun e => absurd (M2.out.symm.trans e) (by decide))
  obtain ⟨qs, hqs⟩ : ∃ l, mmL ((onesL 32).map qOf) ((onesL 32).map qOf) (([32, 1] : List Int).getD 0 0).toNat (([32, 1] : List Int).getD 1 0).toNat (([1, 32] : List Int).getD 1 0).toNat = l := ⟨_, rfl⟩
  have HQS := Lib.hid hqs
  have HQL : Hid ((qs.map canR).length = 1024) := Lib.hid (by rw [List.length_map, ← hqs, mmL_len]; rfl)
  clear hqs K32 K33 K7
  go_enter Tryz.func7, Tryz.ntmps7
  have P := Lib.hid (rint_1 w)
  go_wp2_with fail
  with_reducible refine P.out.mono ?_
  rintro e V1 ⟨v, rfl, hf, HQ1⟩
  obtain ⟨A5, i5, j5, B5, k5, m5, rfl, -⟩ := HQ1.now
  replace F := fr_then F hf
  clear hf P
  have P := Lib.hid (rback_u (n0 := 0) HQ1.now rfl (Nat.zero_le _) (by decide) (lens_1 (M := 6) (by decide)))
  go_wp2_with fail
  with_reducible refine P.out.mono ?_
  rintro e V2 ⟨v, rfl, hf, HQ2⟩
  obtain ⟨A6, i6, j6, B6, k6, m6, rfl, -⟩ := HQ2.now
  replace F := fr_then F hf
  have al := fun R => (Fr.refl R V2).alloc (.cells #[.bool (sg 1), .slice A6 i6 j6, .slice B6 k6 m6] 54)
  have zo := Box3.new V2 54 (.bool (sg 1)) (.slice A6 i6 j6) (.slice B6 k6 m6)
  have HO : Hold (fun u => Sl Lm (fun _ => True) u (.slice A6 i6 j6) (dg LB (1 : Rat).num.natAbs) ∧ Sl Lm (fun _ => True) u (.slice B6 k6 m6) (dg LB (1 : Rat).den)) V2 := fun u hu => ⟨(HQ2.at hu).out.num.sl.any, (HQ2.at hu).out.den.sl.any⟩
  replace HO := HO.keep (al _)
  replace F := fr_then F (al _)
  clear hf P HQ1 HQ2 al
  have P := Lib.hid (col_c _ 32 V2.heap.size 32 rfl (1 : Rat) _ _ (by decide) zo HO.now.1 HO.now.2)
  go_wp2_with fail
  obtain ⟨b1, hb1⟩ : ∃ b, V2.heap.size = b := ⟨_, rfl⟩
  rw [hb1] at P zo ⊢
  clear hb1
  generalize V2.alloc (.cells #[.bool (sg 1), .slice A6 i6 j6, .slice B6 k6 m6] 54) = V3 at P zo HO F ⊢
  with_reducible refine P.out.mono ?_
  rintro e V11 ⟨v, rfl, hf, H⟩
  obtain ⟨A15, n15, c15, B15, m15, k15, rfl, -⟩ := H.now
  replace zo := zo.keep hf
  replace HO := HO.keep hf
  replace F := fr_then F hf
  have H15 : Hold (fun u => (TV [32, 1] (onesL 32)) u (.slice A15 n15 c15) (.slice B15 m15 k15)) V11 := H.mono fun _ h => h.out
  clear P hf H
  have P := Lib.hid (col_c _ 32 _ 32 rfl (1 : Rat) _ _ (by decide) zo HO.now.1 HO.now.2)
  go_wp2_with fail
  with_reducible refine P.out.mono ?_
  rintro e V12 ⟨v, rfl, hf, H⟩
  obtain ⟨A18, n18, c18, B18, m18, k18, rfl, -⟩ := H.now
  replace H15 := H15.keep hf
  replace zo := zo.keep hf
  replace HO := HO.keep hf
  replace F := fr_then F hf
  have H18 : Hold (fun u => (TV [32, 1] (onesL 32)) u (.slice A18 n18 c18) (.slice B18 m18 k18)) V12 := H.mono fun _ h => h.out
  clear P hf H
  have P := Lib.hid (turn_t _ H18.now (by decide))
  go_wp2_with fail
  with_reducible refine P.out.mono ?_
  rintro e V13 ⟨v, rfl, hf, H⟩
  obtain ⟨A19, n19, c19, B19, m19, k19, rfl, -⟩ := H.now
  replace H15 := H15.keep hf
  replace H18 := H18.keep hf
  replace zo := zo.keep hf
  replace HO := HO.keep hf
  replace F := fr_then F hf
  have H19 : Hold (fun u => (TV [1, 32] (onesL 32)) u (.slice A19 n19 c19) (.slice B19 m19 k19)) V13 := H.mono fun _ h => h.out
  clear P hf H
  have P := Lib.hid (mm_u (K := 200) (sh' := [32, 32]) H15.now H19.now F32 R32 M1 (Lib.hid fun _ => rfl) (Lib.hid fun _ => HQS.out) (Lib.hid (by decide)))
  go_wp2_with fail
  with_reducible refine P.out.mono ?_
  rintro e W4 ⟨v, rfl, hf, H⟩
  obtain ⟨A4, n4, c4, B4, m4, k4, rfl, -⟩ := H.now
  have al := fun R => (Fr.refl R W4).alloc (.cells #[.slice A4 n4 c4, .slice B4 m4 k4] 26)
  replace H15 := H15.keep hf
  replace H18 := H18.keep hf
  replace H19 := H19.keep hf
  replace zo := zo.keep hf
  replace HO := HO.keep hf
  replace F := fr_then F hf
  replace H15 := H15.keep (al _)
  replace H18 := H18.keep (al _)
  replace H19 := H19.keep (al _)
  replace zo := zo.keep (al _)
  replace HO := HO.keep (al _)
  replace F := fr_then F (al _)
  have z4 := Box2.new W4 26 (.slice A4 n4 c4) (.slice B4 m4 k4)
  have H4 : Hold (fun u => TC 0 [32, 32] (qs.map canR) u (.slice A4 n4 c4) (.slice B4 m4 k4)) (W4.alloc (.cells #[.slice A4 n4 c4, .slice B4 m4 k4] 26)) := (H.mono fun _ h => h.out).keep (al _)
  clear P hf H al
  clear H15
  clear H18
  clear H19
  have P := Lib.hid (col_c _ 33 _ 33 rfl (1 : Rat) _ _ (by decide) zo HO.now.1 HO.now.2)
  go_wp2_with fail
  generalize W4.alloc (.cells #[.slice A4 n4 c4, .slice B4 m4 k4] 26) = U4 at *
  generalize W4.heap.size = b4 at *
  with_reducible refine P.out.mono ?_
  rintro e V14 ⟨v, rfl, hf, H⟩
  obtain ⟨A25, n25, c25, B25, m25, k25, rfl, -⟩ := H.now
  replace z4 := z4.keep hf
  replace H4 := H4.keep hf
  replace zo := zo.keep hf
  replace HO := HO.keep hf
  replace F := fr_then F hf
  have H25 : Hold (fun u => (TV [33, 1] (onesL 33)) u (.slice A25 n25 c25) (.slice B25 m25 k25)) V14 := H.mono fun _ h => h.out
  clear P hf H
  have P := Lib.hid (col_c _ 32 _ 32 rfl (1 : Rat) _ _ (by decide) zo HO.now.1 HO.now.2)
  go_wp2_with fail
  with_reducible refine P.out.mono ?_
  rintro e V15 ⟨v, rfl, hf, H⟩
  obtain ⟨A28, n28, c28, B28, m28, k28, rfl, -⟩ := H.now
  replace z4 := z4.keep hf
  replace H4 := H4.keep hf
  replace H25 := H25.keep hf
  replace zo := zo.keep hf
  replace HO := HO.keep hf
  replace F := fr_then F hf
  have H28 : Hold (fun u => (TV [32, 1] (onesL 32)) u (.slice A28 n28 c28) (.slice B28 m28 k28)) V15 := H.mono fun _ h => h.out
  clear P hf H
  have P := Lib.hid (turn_t _ H28.now (by decide))
  go_wp2_with fail
  with_reducible refine P.out.mono ?_
  rintro e V16 ⟨v, rfl, hf, H⟩
  obtain ⟨A29, n29, c29, B29, m29, k29, rfl, -⟩ := H.now
  replace z4 := z4.keep hf
  replace H4 := H4.keep hf
  replace H25 := H25.keep hf
  replace H28 := H28.keep hf
  replace zo := zo.keep hf
  replace HO := HO.keep hf
  replace F := fr_then F hf
  have H29 : Hold (fun u => (TV [1, 32] (onesL 32)) u (.slice A29 n29 c29) (.slice B29 m29 k29)) V16 := H.mono fun _ h => h.out
  clear P hf H
  have P := Lib.hid (mm_u (K := 200) (sh' := []) (qs := []) H25.now H29.now F33 R32 M2 (Lib.hid fun h => (nomatch h)) (Lib.hid fun h => (nomatch h)) (Lib.hid (by decide)))
  go_wp2_with fail
  with_reducible refine P.out.mono ?_
  rintro e W6 ⟨v, rfl, hf, H⟩
  obtain ⟨A6, n6, c6, B6, m6, k6, rfl, -⟩ := H.now
  have al := fun R => (Fr.refl R W6).alloc (.cells #[.slice A6 n6 c6, .slice B6 m6 k6] 26)
  replace z4 := z4.keep hf
  replace H4 := H4.keep hf
  replace H25 := H25.keep hf
  replace H28 := H28.keep hf
  replace H29 := H29.keep hf
  replace zo := zo.keep hf
  replace HO := HO.keep hf
  replace F := fr_then F hf
  replace z4 := z4.keep (al _)
  replace H4 := H4.keep (al _)
  replace H25 := H25.keep (al _)
  replace H28 := H28.keep (al _)
  replace H29 := H29.keep (al _)
  replace zo := zo.keep (al _)
  replace HO := HO.keep (al _)
  replace F := fr_then F (al _)
  have z6 := Box2.new W6 26 (.slice A6 n6 c6) (.slice B6 m6 k6)
  have H6 : Hold (fun u => TC 14 [] (([] : List Rat).map canR) u (.slice A6 n6 c6) (.slice B6 m6 k6)) (W6.alloc (.cells #[.slice A6 n6 c6, .slice B6 m6 k6] 26)) := (H.mono fun _ h => h.out).keep (al _)
  clear P hf H al
  clear H25
  clear H28
  clear H29
  have P := Lib.hid (col_c _ 33 _ 33 rfl (1 : Rat) _ _ (by decide) zo HO.now.1 HO.now.2)
  go_wp2_with fail
  generalize W6.alloc (.cells #[.slice A6 n6 c6, .slice B6 m6 k6] 26) = U6 at *
  generalize W6.heap.size = b6 at *
  with_reducible refine P.out.mono ?_
  rintro e V17 ⟨v, rfl, hf, H⟩
  obtain ⟨A35, n35, c35, B35, m35, k35, rfl, -⟩ := H.now
  replace z4 := z4.keep hf
  replace z6 := z6.keep hf
  replace H4 := H4.keep hf
  replace H6 := H6.keep hf
  replace zo := zo.keep hf
  replace HO := HO.keep hf
  replace F := fr_then F hf
  have H35 : Hold (fun u => (TV [33, 1] (onesL 33)) u (.slice A35 n35 c35) (.slice B35 m35 k35)) V17 := H.mono fun _ h => h.out
  clear P hf H
  have P := Lib.hid (col_c _ 32 _ 32 rfl (1 : Rat) _ _ (by decide) zo HO.now.1 HO.now.2)
  go_wp2_with fail
  with_reducible refine P.out.mono ?_
  rintro e V18 ⟨v, rfl, hf, H⟩
  obtain ⟨A38, n38, c38, B38, m38, k38, rfl, -⟩ := H.now
  replace z4 := z4.keep hf
  replace z6 := z6.keep hf
  replace H4 := H4.keep hf
  replace H6 := H6.keep hf
  replace H35 := H35.keep hf
  replace zo := zo.keep hf
  replace HO := HO.keep hf
  replace F := fr_then F hf
  have H38 : Hold (fun u => (TV [32, 1] (onesL 32)) u (.slice A38 n38 c38) (.slice B38 m38 k38)) V18 := H.mono fun _ h => h.out
  clear P hf H
  have P := Lib.hid (turn_t _ H38.now (by decide))
  go_wp2_with fail
  with_reducible refine P.out.mono ?_
  rintro e V19 ⟨v, rfl, hf, H⟩
  obtain ⟨A39, n39, c39, B39, m39, k39, rfl, -⟩ := H.now
  replace z4 := z4.keep hf
  replace z6 := z6.keep hf
  replace H4 := H4.keep hf
  replace H6 := H6.keep hf
  replace H35 := H35.keep hf
  replace H38 := H38.keep hf
  replace zo := zo.keep hf
  replace HO := HO.keep hf
  replace F := fr_then F hf
  have H39 : Hold (fun u => (TV [1, 32] (onesL 32)) u (.slice A39 n39 c39) (.slice B39 m39 k39)) V19 := H.mono fun _ h => h.out
  clear P hf H
  have P := Lib.hid (col_c _ 7 _ 7 rfl (1 : Rat) _ _ (by decide) zo HO.now.1 HO.now.2)
  go_wp2_with fail
  with_reducible refine P.out.mono ?_
  rintro e V20 ⟨v, rfl, hf, H⟩
  obtain ⟨A41, n41, c41, B41, m41, k41, rfl, -⟩ := H.now
  replace z4 := z4.keep hf
  replace z6 := z6.keep hf
  replace H4 := H4.keep hf
  replace H6 := H6.keep hf
  replace H35 := H35.keep hf
  replace H38 := H38.keep hf
  replace H39 := H39.keep hf
  replace zo := zo.keep hf
  replace HO := HO.keep hf
  replace F := fr_then F hf
  have H41 : Hold (fun u => (TV [7, 1] (onesL 7)) u (.slice A41 n41 c41) (.slice B41 m41 k41)) V20 := H.mono fun _ h => h.out
  clear P hf H
  have P := Lib.hid (gem_e H35.now H39.now H41.now F33 R32 F7 M3 (by decide) M4.out)
  go_wp2_with fail
  with_reducible refine P.out.mono ?_
  rintro e W8 ⟨v, rfl, hf, H⟩
  obtain ⟨A8, n8, c8, B8, m8, k8, rfl, -⟩ := H.now
  have al := fun R => (Fr.refl R W8).alloc (.cells #[.slice A8 n8 c8, .slice B8 m8 k8] 26)
  replace z4 := z4.keep hf
  replace z6 := z6.keep hf
  replace H4 := H4.keep hf
  replace H6 := H6.keep hf
  replace H35 := H35.keep hf
  replace H38 := H38.keep hf
  replace H39 := H39.keep hf
  replace H41 := H41.keep hf
  replace zo := zo.keep hf
  replace HO := HO.keep hf
  replace F := fr_then F hf
  replace z4 := z4.keep (al _)
  replace z6 := z6.keep (al _)
  replace H4 := H4.keep (al _)
  replace H6 := H6.keep (al _)
  replace H35 := H35.keep (al _)
  replace H38 := H38.keep (al _)
  replace H39 := H39.keep (al _)
  replace H41 := H41.keep (al _)
  replace zo := zo.keep (al _)
  replace HO := HO.keep (al _)
  replace F := fr_then F (al _)
  have z8 := Box2.new W8 26 (.slice A8 n8 c8) (.slice B8 m8 k8)
  have H8 : Hold (fun u => TC 14 [] [] u (.slice A8 n8 c8) (.slice B8 m8 k8)) (W8.alloc (.cells #[.slice A8 n8 c8, .slice B8 m8 k8] 26)) := (H.mono fun _ h => h.out).keep (al _)
  clear P hf H al
  clear H35
  clear H38
  clear H39
  clear H41
  have hm4 := (len_of (H4.now.2 rfl).2).trans HQL.out
  subst hm4
  have P := Lib.hid (known10_u (W8.alloc (.cells #[.slice A8 n8 c8, .slice B8 m8 k8] 26)))
  have pp40 := z4.c0
  have pp41 := z4.c1
  go_wp2_with fail
  clear pp40 pp41
  generalize W8.alloc (.cells #[.slice A8 n8 c8, .slice B8 m8 k8] 26) = U8 at *
  generalize W8.heap.size = b8 at *
  with_reducible refine P.out.mono ?_
  rintro e V21 ⟨v, rfl, hf, H⟩
  obtain rfl := H.now
  replace z4 := z4.keep hf
  replace z6 := z6.keep hf
  replace z8 := z8.keep hf
  replace H4 := H4.keep hf
  replace H6 := H6.keep hf
  replace H8 := H8.keep hf
  replace zo := zo.keep hf
  replace HO := HO.keep hf
  replace F := fr_then F hf
  clear P hf H
  have pp40 := z4.c0
  have pp41 := z4.c1
  go_wp2_with fail
  clear pp40 pp41
  go_ret
  exact ⟨rfl, F⟩
end Go.Proofs.YtlppcfeimpcbjaaGreat
