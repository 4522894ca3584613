import Derived.Test.YtlppcfeimpcbjaaGreatFoldF
set_option linter.unusedSimpArgs false
set_option linter.unusedVariables false

/- slices.Clone of a list of numbers; the rest of a slice. -/
namespace Go.Proofs.YtlppcfeimpcbjaaGreat
open Go.RowKit Go.Shelf
attribute [local go_sem] Oper.semAt_some

theorem eqlNilI (W : World) (a : Option Addr) (n c : Nat) : (binOp .eql 22 (.slice a n c) (.slice none 0 0)).run Tryz.prog W = .ok (.bool a.isNone) W :=
  Lib.run_eql_slice_nil W 22 3 a n c 0 0 Tryz.underlying22

set_option maxHeartbeats 400000 in
theorem iclone_calls {S : Nat → Prop} (w : World) (v : Value) (xs : List Int) (h : Sl Im S w v xs) (hl : xs.length ≤ 1099511627000) :
    Calls Tryz.prog 109 #[v] w fun e w' => ∃ v, e = .returned v ∧ Own Im 3 (fun k => w.heap.size ≤ k) w' v xs ∧ Fr (fun k => k < w.heap.size) w w' := by
  obtain ⟨A, c, rfl, hcap, _, hlx⟩ := h.slice
  have he := eqlNilI
  cases A with
  | none =>
    obtain rfl : xs = [] := by
      obtain ⟨A', c', hv, _, _, _, h4⟩ := h
      cases xs with
      | nil => rfl
      | cons x xs => cases hv; obtain ⟨ad, h, _⟩ := h4 (by simp); cases h
    go_enter Tryz.func109, Tryz.ntmps109
    go_wp2_with fail
    go_ret
    exact ⟨_, rfl, Own.nil _ _ _ _, Fr.refl _ _⟩
  | some ad =>
    have hf := fun R => (Fr.refl R w).alloc (.cells #[] 3)
    have hsl := h.up Im_pos (Nat.le_refl _) (hf _)
    have H := Lib.hid hsl
    clear h hsl
    go_enter Tryz.func109, Tryz.ntmps109
    have hn1 : ∀ k, (w.alloc (.cells #[] 3)).heap.size ≤ k → w.heap.size ≤ k := fun k hk => by simp at hk; omega
    have hl1 : (([] : List Int).length + xs.length) * 8 ≤ 140737488355328 := by simp; omega
    have hl2 : ([] : List Int).length + xs.length ≤ 9223372036854775807 := by simp; omega
    have HN := Lib.hid (And.intro hn1 (And.intro hl1 hl2))
    clear hn1 hl1 hl2
    go_wp2_with (at_builtin; refine wpList_push (v := .slice (some ⟨w.heap.size, 0, none⟩) 0 0) imT2 rfl rfl rfl rfl (Own.empty Im 3 (S := fun k => w.heap.size ≤ k) w (Nat.le_refl _)) H.out (fun y cs h => Kd.int_any (S := fun k => k < w.heap.size) h) HN.out.1 HN.out.2.1 HN.out.2.2 ?_; intro v' w1 hown hfr hat)
    go_ret
    exact ⟨_, rfl, hown, (hf _).comp hfr fun k hk _ => ⟨hk, by simp [Value.ownBlock]; omega⟩⟩
/-- What lies behind the first m of a slice. -/
theorem Sl.rest {α : Type} {K : Kd α} {S : Nat → Prop} {w : World} {ad : Addr} {c m : Nat} {xs : List α} (h : Sl K S w (.slice (some ad) xs.length c) xs) (hm : m ≤ xs.length) : Sl K S w (.slice (some (ad.add (m * K.size))) (xs.length - m) (c - m)) (xs.drop m) := by
  obtain ⟨A', c', he, h1, h2, h3, h4⟩ := h
  cases he
  have hlm : (xs.drop m).length = xs.length - m := List.length_drop
  refine ⟨some (ad.add (m * K.size)), c - m, by rw [hlm], by omega, by omega, fun h => by simp at h, fun hp => ?_⟩
  rw [hlm] at hp
  obtain ⟨ad', hA, hS, hc⟩ := h4 (by omega)
  cases hA
  refine ⟨_, rfl, by rw [addr_block]; exact hS, fun i x hx => ?_⟩
  rw [List.getElem?_drop] at hx
  obtain ⟨cs, hr, hu⟩ := hc (m + i) x hx
  refine ⟨cs, hr, fun j u hj => ?_⟩
  rw [addr_add_add, ← Nat.add_assoc, ← Nat.add_mul]
  exact hu j u hj
end Go.Proofs.YtlppcfeimpcbjaaGreat
