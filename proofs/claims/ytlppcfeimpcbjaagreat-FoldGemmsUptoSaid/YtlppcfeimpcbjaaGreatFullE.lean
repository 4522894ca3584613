import Derived.Test.YtlppcfeimpcbjaaGreatFullCD
import Derived.Test.YtlppcfeimpcbjaaGreatFacts
import Derived.Test.YtlppcfeimpcbjaaGreatTenUZ
set_option linter.unusedSimpArgs false
set_option linter.unusedVariables false

/- TensorFull. -/
namespace Go.Proofs.YtlppcfeimpcbjaaGreat
open Go.RowKit

theorem canR_norm (x : RatL) : normR x = canR (qOf x) := rfl
/-- A slice of one rational, just built. -/
theorem one_rk {u : World} {A B : Option Addr} {n c m k L : Nat} {s : Bool} {q : Rat} {t : TypeId} (hs : s = sg q) (hr : RR (fun _ => True) u (.slice A n c) (.slice B m k) q L) : Sl (Rk L) (fun _ => True) (u.alloc (.cells #[.bool s, .slice A n c, .slice B m k] t)) (.slice (some ⟨u.heap.size, 0, none⟩) 1 1) [q] := by
  have F := (Fr.refl (fun k => k < u.heap.size) u).alloc (.cells #[.bool s, .slice A n c, .slice B m k] t)
  have hb := Box3.new u t (.bool s) (.slice A n c) (.slice B m k)
  refine ⟨some ⟨u.heap.size, 0, none⟩, 1, rfl, Nat.le_refl _, by omega, fun h => by simp at h, fun _ => ⟨_, rfl, trivial, fun i x hx => ?_⟩⟩
  have hi : i = 0 := by have := (List.getElem?_eq_some_iff.1 hx).1; simp at this; exact this
  subst hi
  simp at hx
  subst hx
  refine ⟨[.bool s, .slice A n c, .slice B m k], ⟨_, _, by rw [hs], hr.keep F⟩, fun j v hj => ?_⟩
  rcases j with _ | _ | _ | j
  · simp at hj; subst hj; exact hb.c0
  · simp at hj; subst hj; exact hb.c1
  · simp at hj; subst hj; exact hb.c2
  · simp at hj
/-- A list of rationals of the document. -/
def RefL (qs : List Rat) (L : Nat) (u : World) (v : Value) : Prop := ∃ A n c, v = .slice A n c ∧ Sl (Rk L) (fun _ => True) u (.slice A n c) qs
theorem RefL.keep {qs : List Rat} {L : Nat} {v : Value} {u u' : World} (hf : Fr (fun k => k < u.heap.size) u u') (h : RefL qs L u v) : RefL qs L u' v := by
  obtain ⟨A, n, c, e, h1⟩ := h
  exact ⟨A, n, c, e, h1.keep' (Rk_pos L) hf⟩

end Go.Proofs.YtlppcfeimpcbjaaGreat
