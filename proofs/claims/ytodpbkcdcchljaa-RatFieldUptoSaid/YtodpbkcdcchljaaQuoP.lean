
/- The reference's DivMod. -/
import Derived.Test.YtodpbkcdcchljaaQuoN
import Derived.Test.YtodpbkcdcchljaaRefE
namespace Go.Proofs.Ytodpbkcdcchljaa
open Go.RowKit

set_option maxHeartbeats 400000 in
theorem rtrim2_calls {S : Nat → Prop} (w : World) (v : Value) (xs : List Nat) (h : Own Dg 3 S w v xs) :
    Calls Try.prog 80 #[v] w fun e w' => ∃ v, e = .returned v ∧ Own Dg 3 S w v (dg DB (ofB DB xs)) ∧ w' = w := by
  have hs := h.sl
  have hd := Kd.nat_all hs
  obtain ⟨A, c, rfl, hcap, hmax, hlen⟩ := hs.slice
  have H := Lib.hid h
  have HS := Lib.hid hs
  clear h hs
  go_enter Try.func80, Try.ntmps80
  go_wp2
  go_loop [3] (fun n => ∃ k : Nat, k ≤ xs.length ∧ n = .int .i64 k ∧ Hid (∀ j, k ≤ j → j < xs.length → xs[j]? = some 0)) (fun n => (intOf n).toNat)
  case atStart => exact ⟨xs.length, Nat.le_refl _, rfl, fun j h1 h2 => by omega⟩
  case round =>
    obtain ⟨k, hk, rfl, hz⟩ := hrel
    have hkc : (k : Int) ≤ (c : Int) := by omega
    by_cases h0 : 0 < k
    · obtain ⟨ad, rfl, hx, _⟩ := Kd.nat_cell HS.out (i := k - 1) (by omega)
      by_cases hx0 : xs[k-1]'(by omega) = 0
      · rw [hx0] at hx
        have HX := Lib.hid hx0
        clear hx0
        go_wp2
        go_round
        case rel =>
          refine ⟨k - 1, by omega, by go_num, fun j h1 h2 => ?_⟩
          by_cases e : j = k - 1
          · subst e; rw [List.getElem?_eq_getElem h2, HX.out]
          · exact hz.out j (by omega) h2
        case measure => simp [intOf]; omega
      · have hb : (((xs[k-1]'(by omega) : Nat) : Int) == 0) = false := by simpa using hx0
        have HX := Lib.hid hx0
        clear hx0
        go_wp2
        go_ret
        have ht := dg_top DB2 hd hk hz.out (fun _ => by rw [List.getElem?_eq_getElem (by omega)]; simpa using HX.out)
        exact ⟨_, rfl, by rw [← ht.1]; exact H.out.take hk, rfl⟩
    · go_wp2
      go_ret
      have ht := dg_top DB2 hd hk hz.out (fun h => absurd h h0)
      exact ⟨_, rfl, by rw [← ht.1]; exact H.out.take hk, rfl⟩


set_option maxHeartbeats 2000000 in
theorem dm_r {S T : Nat → Prop} (w : World) (va vb : Value) (A B L K : Nat) (ha : RC S w va A L) (hb : RC T w vb B K) (hl : L ≤ 1048576000) (hk : K ≤ 1048576000) (hB : 0 < B) :
    Calls Try.prog 59 #[va, vb] w fun e w' => ∃ q r, e = .returned (.tuple #[q, r]) ∧ RC (fun k => w.heap.size ≤ k) w' q (A / B) L ∧ RC (fun k => w.heap.size ≤ k) w' r (A % B) K ∧ Fr (fun k => k < w.heap.size) w w' := by
  have hlt := ha.lt
  have hBlt := hb.lt
  have hxl := Nat.le_trans ha.len hl
  have hs := ha.sl.up Dg_pos (Nat.le_refl _) (Fr.refl _ _)
  have hb' : RC (fun k => k < w.heap.size) w vb B K := ⟨hb.sl.up Dg_pos (Nat.le_refl _) (Fr.refl _ _), hb.len⟩
  have hxd := Kd.nat_all hs
  have hm := val_dd A
  generalize dg DB A = xs at hs hxd hm hxl
  clear ha hb
  obtain ⟨A1, c, rfl, _, _, hlx⟩ := hs.slice
  obtain ⟨i0, hi, hz0, hz1, hz2⟩ := info_parts info_int
  have hmk : ∀ u : World, (Instr.makeSlice 32 (.int .i64 (xs.length : Int)) (.int .i64 (xs.length : Int))).run Try.prog u = .ok (.slice (some ⟨u.heap.size, 0, none⟩) xs.length xs.length) (u.alloc (.cells (rowOf (List.replicate xs.length 0)) 3)) := fun u => by
    have h := run_make (P := Try.prog) u 32 3 i0 (.int .i64 0) Try.underlying32 hi hz0 .i64 .i64 (xs.length : Int) (xs.length : Int) (by omega) (Int.le_refl _) (by rw [hz2]; omega) (by omega)
    rw [Int.toNat_natCast, hz1, Nat.mul_one] at h
    rw [h]
    refine congrArg (fun c => Result.ok _ (World.alloc u (Obj.cells c _ _))) ?_
    apply Array.ext'
    simp [madeCells, rowOf, Value.cells]
    apply List.ext_getElem
    · simp
    · intro i h1 h2
      simp [Nat.mod_one]
  have HX := Lib.hid (And.intro hs hb')
  have HV := Lib.hid hm
  clear hs hm hb'
  go_enter Try.func59, Try.ntmps59
  go_wp2_with fail
  go_loopw [7, 8, 9, 10, 11] (fun r i _ _ _ wr => ∃ (k R : Nat) (qs : List Nat), k ≤ xs.length ∧ i = .int .i64 ((k : Int) - 1) ∧ ShortN xs B k qs R ∧ RC (fun k => w.heap.size ≤ k) wr r R K ∧ Row wr w.heap.size qs ∧ Fr (fun k => k < w.heap.size) w wr) (fun _ i _ _ _ _ => (intOf i + 1).toNat)
  case atStart => exact ⟨xs.length, 0, List.replicate xs.length 0, Nat.le_refl _, rfl, ⟨by simp, fun q h => by rw [List.eq_of_mem_replicate h]; exact DBpos, hB, by simp [ofB]⟩, RC.nil _ _ _, heap_alloc_new _ _, (Fr.refl _ _).alloc _⟩
  case round =>
    obtain ⟨k, R, qs, hk, rfl, hN, hr, hrow, hfr⟩ := hrel
    have hbw : RC (fun k => k < w.heap.size) wr vb B K := ⟨HX.out.2.sl.fr hfr, HX.out.2.len⟩
    by_cases h0 : 0 < k
    · obtain ⟨j, rfl⟩ : ∃ j, k = j + 1 := ⟨k - 1, by omega⟩
      have hj : j < xs.length := by omega
      obtain ⟨ad, rfl, hc, hmy⟩ := Kd.nat_cell HX.out.1 (i := j) hj
      have hadw := World.block_lt_of_cell? _ _ hc
      have hcw := hfr.cell hc hadw
      obtain ⟨x, hx⟩ : ∃ x, x = R * DB + xs[j] := ⟨_, rfl⟩
      have hst := hN.step hj hxd hx
      have hlen := hN.len
      have hrest := hN.rest
      obtain ⟨y, hy⟩ : ∃ y, y = xs[j] := ⟨_, rfl⟩
      rw [← hy] at hx hc hmy hcw
      have hidx : ((j + 1 : Nat) : Int) - 1 = (j : Int) := by omega
      rw [hidx]
      have hxlt : x < B * 10000 := by
        have h1 := Nat.mul_le_mul_right DB (show R + 1 ≤ B from hrest)
        rw [Nat.add_mul, Nat.one_mul] at h1
        have : x < B * DB := by omega
        exact this
      have hrs := hr.sl
      have hrl := hr.len
      have HST := Lib.hid hst
      have HY := Lib.hid (And.intro hy hx)
      have HQ := Lib.hid hlen
      have hrd : Dg.rd (fun _ => False) wr y [.int .i64 (y : Int)] := ⟨rfl, hmy⟩
      have HSL := Lib.hid hrs
      have HN2 := Lib.hid (show ([y].length + (dg DB R).length) * 8 ≤ 140737488355328 ∧ [y].length + (dg DB R).length ≤ 9223372036854775807 from by simp; omega)
      obtain ⟨A2, n2, c2, rfl⟩ := hr.form
      clear hst hidx hy hx hlen hrs
      go_wp2_with (at_builtin; refine wpList_push (v := .slice (some ⟨wr.heap.size, 0, none⟩) 1 1) dgT rfl rfl rfl rfl (Own.one (K := Dg) (e := 3) (S := fun k => wr.heap.size ≤ k) wr (Nat.le_refl _) (x := y) (cs := [.int .i64 (y : Int)]) rfl (fun _ _ => ⟨rfl, hmy⟩)) (HSL.out.fr ((Fr.refl _ wr).alloc _)) (fun y cs h => Kd.nat_any (S := fun k => w.heap.size ≤ k) h) (fun k hk => by simp at hk; omega) HN2.out.1 HN2.out.2 ?_; intro v' w1 hown hfr1 hat)
      have fW : Fr (fun k => k < wr.heap.size) wr w1 := ((Fr.refl _ wr).alloc _).comp hfr1 (fun k hk h => ⟨h, by simp [Value.ownBlock]; omega⟩)
      have hsz := hfr.size
      have hwr := hrow.lt
      refine (rtrim2_calls w1 v' _ hown).mono ?_
      rintro e w2 ⟨v2, rfl, h2, rfl⟩
      have hxv : ofB DB ([y] ++ dg DB R) = x := by
        rw [HY.out.2]
        show y + DB * ofB DB (dg DB R) = _
        rw [val_dd, Nat.mul_comm, Nat.add_comm]
      rw [hxv] at h2
      have hBlt1 : x < DB ^ (K + 1) := by
        rw [Nat.pow_succ]
        exact Nat.lt_of_lt_of_le hxlt (Nat.mul_le_mul_right _ (Nat.le_of_lt hBlt))
      have hrx : RC (fun k => wr.heap.size ≤ k) w2 v2 x (K + 1) := .of h2 hBlt1
      have hbx : RC (fun k => k < w.heap.size) w2 vb B (K + 1) := ⟨hbw.sl.fr (fW.mono fun k _ hk => by omega), by have := hbw.len; omega⟩
      have hrow2 := hrow.fr fW (by have := hrow.lt; omega)
      have hfr2 := fr_then hfr fW
      have s2 := fW.size
      clear hown h2 hr hrow hfr hfr1 hat hbw hxv
      go_wp2_with fail
      refine (digit_r _ _ _ _ _ _ hrx hbx (by omega) hxlt).mono ?_
      rintro e w3 ⟨rfl, hf3⟩
      have hrow3 := hrow2.fr hf3 (by have := hrow2.lt; omega)
      have hrx3 := hrx.keep hf3
      have hbx3 := hbx.keep hf3
      have hfr3 := fr_then hfr2 hf3
      have s3 := hf3.size
      obtain ⟨uq, hcell⟩ : ∃ u, w3.cell? ⟨w.heap.size, j, none⟩ = some u := ⟨_, hrow3.cell (j := j) (by rw [HQ.out]; omega)⟩
      have hfree := hrow3.free j
      have hrlt := hrow3.lt
      obtain ⟨q, hq⟩ : ∃ q, q = x / B := ⟨_, rfl⟩
      have hst2 := HST.out
      rw [← hq] at hst2
      rw [← hq]
      have hq4 : q ≤ 4294967296 := by have := hst2.1; unfold DB at this; omega
      have hqB : B * q ≤ x := by rw [hq, Nat.mul_comm]; exact Nat.div_mul_le_self x B
      have hmodx : x - B * q = x % B := by rw [hq]; have := Nat.div_add_mod x B; omega
      have HS2 := Lib.hid hst2
      have HM := Lib.hid (And.intro hq hmodx)
      have hrow4 := hrow3.set j q
      have hfr4 : Fr (fun k => k < w.heap.size) w (w3.setCell ⟨w.heap.size, j, none⟩ (.int .i64 (q : Int))) := hfr3.setCell (p := ⟨w.heap.size, j, none⟩) (fun h => by simp at h) _
      have hfS : Fr (fun k => k ≠ w.heap.size) w3 (w3.setCell ⟨w.heap.size, j, none⟩ (.int .i64 (q : Int))) := (Fr.refl _ w3).setCell (p := ⟨w.heap.size, j, none⟩) (fun _ h => h rfl) _
      have hwg := hrow2.lt
      have hrx4 : RC (fun k => k ≠ w.heap.size) (w3.setCell ⟨w.heap.size, j, none⟩ (.int .i64 (q : Int))) v2 x (K + 1) := ⟨(hrx3.sl.mono fun k hk => by omega).fr hfS, hrx3.len⟩
      have hbx4 : RC (fun k => k ≠ w.heap.size) (w3.setCell ⟨w.heap.size, j, none⟩ (.int .i64 (q : Int))) vb B (K + 1) := ⟨(hbx3.sl.mono fun k hk => by omega).fr hfS, hbx3.len⟩
      clear hq hst2 hmodx hrx hbx hrx3 hbx3 hrow2 hrow3 hfr2 hfr3 hfS hf3 fW
      go_wp2_with fail
      refine (times_r _ _ _ _ q hbx4 hq4 (by omega)).mono ?_
      rintro e w4 ⟨v4, rfl, h4, hf4⟩
      have hrx5 := hrx4.keep hf4
      have hrow5 := hrow4.fr hf4 (by have := hrow4.lt; exact this)
      have hfr5 := fr_then hfr4 hf4
      clear hrx4 hbx4 hrow4 hfr4
      go_wp2_with fail
      refine (sub_r _ _ _ _ _ _ _ hrx5 h4 (by omega) hqB).mono ?_
      rintro e w5 ⟨v5, rfl, h5, hf5⟩
      have s4 := hf4.size
      simp [World.setCell] at s4
      go_wp2_with fail
      go_roundw
      case rel =>
        rw [HM.out.2] at h5
        exact ⟨j, x % B, _, by omega, by go_num, HS2.out.2, (h5.len' (Nat.lt_trans (Nat.mod_lt _ hB) hBlt)).mono fun k hk => by omega, hrow5.fr hf5 hrow5.lt, fr_then hfr5 hf5⟩
      case measure => first | (simp [intOf]; done) | (simp [intOf]; omega)
    · obtain rfl : k = 0 := by omega
      have hown := hrow.own (S := fun k => w.heap.size ≤ k) (Nat.le_refl _) hN.small (by rw [hN.len]; omega)
      rw [hN.len] at hown
      have hsum := hN.sum
      have hrest := hN.rest
      rw [List.drop_zero, List.drop_zero, HV.out] at hsum
      have e1 : A / B = ofB DB qs := by rw [hsum, Nat.mul_add_div hB, Nat.div_eq_of_lt hrest, Nat.add_zero]
      have e2 : A % B = R := by rw [hsum, Nat.mul_add_mod, Nat.mod_eq_of_lt hrest]
      have HE := Lib.hid (And.intro e1 e2)
      have HO := Lib.hid hown
      clear hsum e1 e2 hown
      go_wp2_with fail
      refine (rtrim2_calls wr _ qs HO.out).mono ?_
      rintro e w2 ⟨v, rfl, hv, rfl⟩
      rw [← HE.out.1] at hv
      go_wp2_with fail
      go_ret2
      exact ⟨_, _, rfl, .of hv (Nat.lt_of_le_of_lt (Nat.div_le_self _ _) hlt), by rw [HE.out.2]; exact hr, hfr⟩
end Go.Proofs.Ytodpbkcdcchljaa
