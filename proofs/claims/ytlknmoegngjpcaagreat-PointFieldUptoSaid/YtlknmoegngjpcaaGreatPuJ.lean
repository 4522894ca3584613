import Derived.Test.YtlknmoegngjpcaaGreatPuB
import Derived.Test.YtlknmoegngjpcaaGreatPuD
set_option linter.unusedSimpArgs false
set_option linter.unusedVariables false

/- Contracts over tensors of answered numbers. -/
namespace Go.Proofs.YtlknmoegngjpcaaGreat
open Go.RowKit

/-- A tensor that may be, of answered numbers of few limbs. -/
structure KF (sh : List Int) (a : List Rat) (M : Nat) : Prop where
  nsh : sh.length ≤ 1099511627000
  na : a.length ≤ 1099511627000
  may : mayT sh (a.map canR) = 0
  lens : LensL M a
  one : 1 ≤ M
  top : M ≤ 1048578
theorem KF.fit {sh : List Int} {a : List Rat} {M : Nat} (h : KF sh a M) : Fit sh (a.map canR) M := h.lens.fit h.nsh h.na h.one h.top
theorem KF.wide {sh : List Int} {a : List Rat} {M N : Nat} (h : KF sh a M) (hl : M ≤ N) (ht : N ≤ 1048578) : KF sh a N := ⟨h.nsh, h.na, h.may, h.lens.wide hl, by have := h.one; omega, ht⟩
theorem KF.len {sh : List Int} {a b : List Rat} {M N : Nat} (h : KF sh a M) (g : KF sh b N) : a.length = b.length := by
  have := may_same h.may g.may
  rwa [List.length_map, List.length_map] at this
theorem KF.zip {sh : List Int} {a b : List Rat} {M N K : Nat} {f : Rat → Rat → Rat} (hf : ∀ {x y}, Lens M x → Lens N y → Lens K (f x y)) (h : KF sh a M) (g : KF sh b N) (h1 : 1 ≤ K) (ht : K ≤ 1048578) : KF sh (List.zipWith f a b) K := by
  have hl := h.len g
  refine ⟨h.nsh, by rw [List.length_zipWith]; have := h.na; omega, may_can h.may (by rw [List.length_zipWith, List.length_map]; omega), fun q hq => ?_, h1, ht⟩
  rw [List.mem_iff_getElem] at hq
  obtain ⟨i, hi, rfl⟩ := hq
  rw [List.getElem_zipWith]
  exact hf (h.lens _ (List.getElem_mem _)) (g.lens _ (List.getElem_mem _))
theorem like_eq {x : RatL} (h : LikeR x) : x = canR (qOf x) := by
  obtain ⟨h1, h2, h3⟩ := h
  obtain ⟨s, xs, ys⟩ := x
  exact Prod.ext h1 (Prod.ext h2 h3)
theorem may_eq {sh : List Int} {es : List RatL} (h : mayT sh es = 0) : es = (es.map qOf).map canR := by
  rw [List.map_map]
  exact ((List.map_congr_left fun x hx => (like_eq ((mayT_ok h).2.2 x hx)).symm).trans (List.map_id es)).symm
section
variable {w : World} {sh : List Int} {a b : List Rat} {x y z t : Value} {M : Nat}
theorem zipk (f : Rat → Rat → Rat) (g : RatL → RatL → RatL) (hg : ∀ x y, g x y = canR (f (qOf x) (qOf y))) (fa : KF sh a M) (fb : KF sh b M) : (List.range (a.map canR).length).map (zipG g (a.map canR) (b.map canR)) = (List.zipWith f a b).map canR := zip_can f g hg a b (fa.len fb)
theorem add_k (h : TV sh (a.map canR) w x y) (g : TV sh (b.map canR) w z t) (fa : Hid (KF sh a M)) (fb : Hid (KF sh b M)) : Calls Tryz.prog 25 #[.agg #[x, y], .agg #[z, t]] w (Ret w (Tup 0 (TC 0 sh ((List.zipWith (fun p q => p + q) a b).map canR)))) := by
  have p := add_u h g (Lib.hid fa.out.fit) (Lib.hid fb.out.fit) (Lib.hid (bothE_0 fa.out.may fb.out.may rfl fun _ _ => rfl))
  rwa [zipk _ addG (fun _ _ => rfl) fa.out fb.out] at p
theorem sub_k (h : TV sh (a.map canR) w x y) (g : TV sh (b.map canR) w z t) (fa : Hid (KF sh a M)) (fb : Hid (KF sh b M)) : Calls Tryz.prog 26 #[.agg #[x, y], .agg #[z, t]] w (Ret w (Tup 0 (TC 0 sh ((List.zipWith (fun p q => p - q) a b).map canR)))) := by
  have p := sub_u h g (Lib.hid fa.out.fit) (Lib.hid fb.out.fit) (Lib.hid (bothE_0 fa.out.may fb.out.may rfl fun _ _ => rfl))
  rwa [zipk _ subG (fun _ _ => rfl) fa.out fb.out] at p
theorem mul_k (h : TV sh (a.map canR) w x y) (g : TV sh (b.map canR) w z t) (fa : Hid (KF sh a M)) (fb : Hid (KF sh b M)) : Calls Tryz.prog 30 #[.agg #[x, y], .agg #[z, t]] w (Ret w (Tup 0 (TC 0 sh ((List.zipWith (fun p q => p * q) a b).map canR)))) := by
  have p := mul_u h g (Lib.hid fa.out.fit) (Lib.hid fb.out.fit) (Lib.hid (bothE_0 fa.out.may fb.out.may rfl fun _ _ => rfl))
  rwa [zipk _ mulG (fun _ _ => rfl) fa.out fb.out] at p
theorem div_k {r : Int} (h : TV sh (a.map canR) w x y) (g : TV sh (b.map canR) w z t) (fa : Hid (KF sh a M)) (fb : Hid (KF sh b M)) (hr : Hid ((if ∀ p ∈ b, p ≠ 0 then (0 : Int) else 17) = r)) : Calls Tryz.prog 31 #[.agg #[x, y], .agg #[z, t]] w (Ret w (Tup r (TC r sh ((List.zipWith (fun p q => p / q) a b).map canR)))) := by
  have hb := bothE_div fa.out.may fb.out.may
  rw [if_pos rfl, k_q, hr.out] at hb
  have p := div_u h g (Lib.hid fa.out.fit) (Lib.hid fb.out.fit) (Lib.hid hb.symm)
  rwa [zipk _ divG (fun _ _ => rfl) fa.out fb.out] at p
theorem same_k (h : TV sh (a.map canR) w x y) (g : TV sh (b.map canR) w z t) (fa : Hid (KF sh a M)) (fb : Hid (KF sh b M)) (he : Hid (a = b)) : Calls Tryz.prog 40 #[.agg #[x, y], .agg #[z, t]] w (Ret w fun _ v => v = .bool true) :=
  tsame_u h g (Lib.hid fa.out.fit) (Lib.hid fb.out.fit) rfl (Lib.hid (by rw [k_q, k_q]; exact he.out))
theorem may_k (h : TV sh (a.map canR) w x y) (fa : Hid (KF sh a M)) : Calls Tryz.prog 41 #[.agg #[x, y]] w (Ret w fun _ v => v = .int .i64 0) :=
  (may_h w x y sh (a.map canR) M 0 (Lib.hid fa.out.may) h.1 h.2 fa.out.fit.lx fa.out.one (by have := fa.out.top; omega)).mono fun _ _ h => Ret.eq h.1 h.2
end
end Go.Proofs.YtlknmoegngjpcaaGreat
