
/- Package nat: the functions that read: top, limb. -/
import Derived.Test.YtodpbkcdcchljaaProg
import Derived.Test.YtodpbkcdcchljaaWords
import Derived.Test.YtodpbkcdcchljaaPure
import Derived.Outline
namespace Go.Proofs.Ytodpbkcdcchljaa
open Go.RowKit

/-- 2 to the 32: what a limb is below. -/
def LB : Nat := 4294967296
theorem LB2 : 2 ≤ LB := by decide
theorem LBpos : 0 < LB := by decide
/-- limbs -/
def Lm : Kd Nat := Kd.nat .u32 LB
theorem Lm_pos : 0 < Lm.size := by decide
/-- what limbs come to -/
abbrev val (xs : List Nat) : Nat := ofB LB xs
theorem val_dg (n : Nat) : val (dg LB n) = n := ofB_dg LB2 n

theorem Kd.nat_cell {k : IntKind} {b : Nat} {S : Nat → Prop} {w : World} {xs : List Nat} {A : Option Addr} {c : Nat} (h : Sl (Kd.nat k b) S w (.slice A xs.length c) xs) {i : Nat} (hi : i < xs.length) :
    ∃ ad, A = some ad ∧ w.cell? (ad.add i) = some (.int k ((xs[i] : Nat) : Int)) ∧ xs[i] < b := by
  obtain ⟨A', c', he, h1, h2, h3, h4⟩ := h
  cases he
  obtain ⟨ad, rfl, _, hc⟩ := h4 (by omega)
  obtain ⟨cs, ⟨rfl, hlt⟩, hu⟩ := hc i xs[i] (by simp [hi])
  refine ⟨ad, rfl, ?_, hlt⟩
  have := hu 0 _ rfl
  simpa [Kd.nat] using this
theorem Kd.nat_all {k : IntKind} {b : Nat} {S : Nat → Prop} {w : World} {xs : List Nat} {v : Value} (h : Sl (Kd.nat k b) S w v xs) : ∀ d ∈ xs, d < b := by
  intro d hd
  obtain ⟨i, hi, rfl⟩ := List.mem_iff_getElem.1 hd
  obtain ⟨A', c', he, h1, h2, h3, h4⟩ := h
  obtain ⟨ad, rfl, _, hc⟩ := h4 (by omega)
  obtain ⟨cs, ⟨rfl, hlt⟩, hu⟩ := hc i xs[i] (by simp [hi])
  exact hlt

set_option maxHeartbeats 400000 in
theorem top_calls {S : Nat → Prop} (w : World) (v : Value) (xs : List Nat) (h : Sl Lm S w v xs) :
    Calls Try.prog 74 #[v] w fun e w' => e = .returned (.int .i64 ((dg LB (val xs)).length : Int)) ∧ w' = w := by
  obtain ⟨A, c, rfl, hcap, hmax, hlen⟩ := h.slice
  have hd := Kd.nat_all h
  have H := Lib.hid h
  clear h
  go_enter Try.func74, Try.ntmps74
  go_wp2
  go_loop [3] (fun n => ∃ k : Nat, k ≤ xs.length ∧ n = .int .i64 k ∧ Hid (∀ j, k ≤ j → j < xs.length → xs[j]? = some 0)) (fun n => (intOf n).toNat)
  case atStart => exact ⟨xs.length, Nat.le_refl _, rfl, fun j h1 h2 => by omega⟩
  case round =>
    obtain ⟨k, hk, rfl, hz⟩ := hrel
    by_cases h0 : 0 < k
    · obtain ⟨ad, rfl, hx, _⟩ := Kd.nat_cell H.out (i := k - 1) (by omega)
      by_cases hx0 : xs[k-1]'(by omega) = 0
      · rw [hx0] at hx
        have HX := Lib.hid hx0
        clear hx0
        go_wp2
        go_round
        case rel =>
          refine ⟨k - 1, by omega, by go_num, fun j h1 h2 => ?_⟩
          by_cases e : j = k - 1
          · subst e; rw [List.getElem?_eq_getElem h2, HX.out]
          · exact hz.out j (by omega) h2
        case measure => simp [intOf]; omega
      · have hb : (((xs[k-1]'(by omega) : Nat) : Int) == 0) = false := by simpa using hx0
        have HX := Lib.hid hx0
        clear hx0
        go_wp2
        go_ret
        have ht := (dg_top LB2 hd hk hz.out (fun _ => by rw [List.getElem?_eq_getElem (by omega)]; simpa using HX.out)).2
        exact ⟨congrArg (fun n : Nat => Ending.returned (.int .i64 (n : Int))) ht, rfl⟩
    · go_wp2
      go_ret
      have ht := (dg_top LB2 hd hk hz.out (fun h => absurd h h0)).2
      exact ⟨congrArg (fun n : Nat => Ending.returned (.int .i64 (n : Int))) ht, rfl⟩

/-- the limb at a place -/
def limbAt (xs : List Nat) (i : Int) : Nat := if i < 0 then 0 else xs.getD i.toNat 0

set_option maxHeartbeats 400000 in
theorem limb_calls {S : Nat → Prop} (w : World) (v : Value) (xs : List Nat) (i : Int) (h : Sl Lm S w v xs) :
    Calls Try.prog 90 #[v, .int .i64 i] w fun e w' => e = .returned (.int .u64 (limbAt xs i : Int)) ∧ w' = w := by
  obtain ⟨A, c, rfl, hcap, hmax, hlen⟩ := h.slice
  have H := Lib.hid h
  clear h
  by_cases h0 : i < 0
  · go_enter Try.func90, Try.ntmps90
    go_wp2
    go_ret
    exact ⟨by simp [limbAt, h0], rfl⟩
  · obtain ⟨n, rfl⟩ := Int.eq_ofNat_of_zero_le (Int.not_lt.1 h0)
    by_cases h1 : n < xs.length
    · obtain ⟨ad, rfl, hx, hlt⟩ := Kd.nat_cell H.out (i := n) h1
      have hlt' : xs[n] < 4294967296 := hlt
      have hgd : limbAt xs (n : Int) = xs[n] := by unfold limbAt; rw [if_neg (by omega), Int.toNat_natCast, List.getD_eq_getElem?_getD, List.getElem?_eq_getElem h1]; rfl
      have HG := Lib.hid hgd
      clear hgd hlt
      go_enter Try.func90, Try.ntmps90
      go_wp2
      go_ret
      exact ⟨congrArg (fun n : Nat => Ending.returned (.int .u64 (n : Int))) HG.out.symm, rfl⟩
    · go_enter Try.func90, Try.ntmps90
      go_wp2
      go_ret
      have hgd : limbAt xs (n : Int) = 0 := by unfold limbAt; rw [if_neg (by omega), Int.toNat_natCast, List.getD_eq_getElem?_getD, List.getElem?_eq_none (by omega)]; rfl
      exact ⟨congrArg (fun n : Nat => Ending.returned (.int .u64 (n : Int))) hgd.symm, rfl⟩
end Go.Proofs.Ytodpbkcdcchljaa
