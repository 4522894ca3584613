import Derived.Test.YtlppcfeimpcbjaaGreatFoS
import Derived.Test.YtlppcfeimpcbjaaGreatFoY
set_option linter.unusedSimpArgs false
set_option linter.unusedVariables false

/- Sums, axis by axis: the plain law. -/
namespace Go.Proofs.YtlppcfeimpcbjaaGreat
open Go.RowKit

theorem sumL_congr {p1 p2 : Nat → Nat} {q : List Rat} {N i : Nat} (h : ∀ j, j < i → p1 j = p2 j) : sumL p1 q N i = sumL p2 q N i :=
  List.map_congr_left fun n _ => show sumN _ i = sumN _ i from sumN_congr fun j hj => by rw [h j hj]
theorem sumL_nil {sh : List Int} {q : List Rat} (h : ∀ d ∈ sh, 1 ≤ d) (hq : (q.length : Int) = pr sh) : sumL (plc sh []) q q.length q.length = q := by
  rw [sumL_congr (p2 := fun j => j) fun j hj => plc_nil h (by omega)]
  refine getD_ext (sumL_len _ _ _ _) fun n hn => ?_
  rw [sumL_len] at hn
  rw [sumL_at _ _ hn]
  show sumN (fun j => if j = n then q.getD j 0 else 0) q.length = q.getD n 0
  exact (sumN_pick (f := fun j => q.getD j 0)).trans (if_pos hn)
theorem mayT_can {sh : List Int} {qs : List Rat} (h : mayS sh = 0) (hl : (qs.length : Int) = pr sh) : mayT sh (qs.map canR) = 0 :=
  mayT_0 (fitsT_0 h (by rw [List.length_map, cntS_ok h]; exact hl)) fun x hx => by obtain ⟨q, _, rfl⟩ := List.mem_map.1 hx; exact like_can q
theorem fit_wide {sh : List Int} {es : List RatL} {L M : Nat} (f : Fit sh es L) (h : L ≤ M) (hM : M ≤ 1048578) : Fit sh es M :=
  ⟨f.nsh, f.nes, fun x hx => ⟨Nat.le_trans (f.lx x hx).1 h, Nat.le_trans (f.lx x hx).2 h⟩, Nat.le_trans f.one h, hM, f.lt⟩
theorem axE_0 {axes : List Int} {n : Nat} (h : Rise axes) (h1 : ∀ x ∈ axes, x < n) : axE axes n = 0 := by
  unfold axE
  rw [if_pos h, if_pos h1]
theorem getD_app {l : List Int} {x : Int} {i : Nat} (h : i < l.length) : (l ++ [x]).getD i 0 = l.getD i 0 := by
  rw [List.getD_eq_getElem?_getD, List.getD_eq_getElem?_getD, List.getElem?_append_left h]
theorem getD_end {l : List Int} {x : Int} : (l ++ [x]).getD l.length 0 = x := by
  rw [List.getD_eq_getElem?_getD, List.getElem?_append_right (Nat.le_refl _), Nat.sub_self]
  rfl
theorem rise_init {init : List Int} {last : Int} (h : Rise (init ++ [last])) : Rise init ∧ (∀ x ∈ init, x < last) ∧ 0 ≤ last := by
  have hl : (init ++ [last]).length = init.length + 1 := by simp
  refine ⟨fun i hi => ?_, fun x hx => ?_, rise_all h _ (by simp)⟩
  · obtain ⟨h1, h2⟩ := h i (by omega)
    rw [getD_app hi] at h1 h2
    exact ⟨h1, fun h0 => by have := h2 h0; rwa [getD_app (by omega)] at this⟩
  · obtain ⟨i, hi, rfl⟩ := List.mem_iff_getElem.1 hx
    have h1 := (h (i + 1) (by omega)).2 (by omega)
    rw [Nat.add_sub_cancel, getD_app hi] at h1
    have h2 := rise_last h (init.length - (i + 1)) (i + 1) (by omega)
    rw [hl, Nat.add_sub_cancel, getD_end] at h2
    rw [← getI_at hi]
    omega
theorem drop_one_len {last : Int} : ∀ {i : Nat} {l : List Int}, l.length ≤ (dropI [last] i l).length + 1
  | _, [] => Nat.zero_le _
  | i, x :: l => by
    rw [dropI]
    split
    · next h =>
      rw [List.mem_singleton] at h
      rw [drop_low fun n hn => by rw [List.mem_singleton] at hn; omega]
      exact Nat.le_refl _
    · have := drop_one_len (last := last) (i := i + 1) (l := l)
      rw [List.length_cons, List.length_cons]
      omega
/-- the last axis first, then the others: the same as all at once -/
theorem steps_two {sha init : List Int} {last : Int} {q : List Rat} (hm : mayS sha = 0) (hq : (q.length : Int) = pr sha) (hr : Rise (init ++ [last])) (hx : ∀ x ∈ init ++ [last], x < sha.length) :
    axE init (dropI [last] 0 sha).length = 0 ∧ axE [last] sha.length = 0 ∧ dropI init 0 (dropI [last] 0 sha) = dropI (init ++ [last]) 0 sha ∧ ∀ N2, sumL (plc (dropI [last] 0 sha) init) (sumL (plc sha [last]) q (pr (dropI [last] 0 sha)).toNat q.length) N2 (pr (dropI [last] 0 sha)).toNat = sumL (plc sha (init ++ [last])) q N2 q.length := by
  obtain ⟨h1, h2, h3⟩ := rise_init hr
  obtain ⟨-, hd, -⟩ := mayS_ok hm
  have hlast : last < sha.length := hx last (by simp)
  have hlen := drop_one_len (last := last) (i := 0) (l := sha)
  refine ⟨axE_0 h1 fun x hxi => ?_, axE_0 (fun i hi => ?_) fun x hxi => ?_, drop_two h2, fun N2 => ?_⟩
  · have := h2 x hxi
    omega
  · obtain rfl : i = 0 := by have : i < 1 := hi; omega
    exact ⟨h3, fun h => by omega⟩
  · rw [List.mem_singleton] at hxi
    rw [hxi]
    exact hlast
  · rw [sumL_comp _ _ _ fun j hj => ?_]
    · exact sumL_congr fun j hj => plc_two h2 hd (by omega)
    · have := (plc_lt (axes := [last]) hd (j := j) (by omega)).2
      omega

section
variable {w : World} {sha : List Int} {ea : List RatL} {a b v : Value} {L : Nat} {r : Int}
theorem tmay_u (h : TV sha ea w a b) (f : Hid (Fit sha ea L)) (hr : Hid (mayT sha ea = r)) : Calls Tryz.prog 25 #[.agg #[a, b]] w (Ret w fun _ v => v = .int .i64 r) :=
  (may_h w a b sha ea L r hr h.1 h.2 f.out.lx f.out.one (by have := f.out.top; omega)).mono fun _ _ h => Ret.eq h.1 h.2
theorem r6axes_u {axes : List Int} {n : Nat} {bb : Bool} (g : Sl Im (fun _ => True) w v axes) (hb : Hid (axB axes n = bb)) : Calls Tryz.prog 23 #[v, .int .i64 (n : Int)] w (Ret w fun _ v => v = .bool bb) :=
  (r6axes_t w v axes n bb hb g).mono fun _ _ h => Ret.eq h.1 (h.2.mono fun _ _ _ => trivial)
end
end Go.Proofs.YtlppcfeimpcbjaaGreat
