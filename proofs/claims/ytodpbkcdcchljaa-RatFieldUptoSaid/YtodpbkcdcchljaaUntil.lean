
/- A region that draws its order, whose last operation writes what its loads read: a condition S on the world is held until that operation has come up, and no longer. -/
import Derived.Test.YtodpbkcdcchljaaWords
import Derived.OrdersHeld
namespace Go.Proofs.Ytodpbkcdcchljaa
open Go.RowKit

/-- Whatever order is picked; as long as number j has not come up, S holds. -/
def wpTill (P : Program) (md : Region.Mode) (ops : Array Oper) (Q : Exit → Act → World → Prop) (S : World → Prop) (j : Nat) : Nat → Array Bool → Act → World → Prop
  | 0, done, a, w => Region.ready md ops done = [] ∧ Q .normal a w
  | n + 1, done, a, w => (Region.ready md ops done = [] → Q .normal a w) ∧
    ∀ k ∈ Region.ready md ops done, wpOp P ops Q k (fun b u => ((done.setIfInBounds k true).getD j true = false → S u) ∧ wpTill P md ops Q S j n (done.setIfInBounds k true) b u) a w

theorem wpTill.any {P : Program} {md : Region.Mode} {ops : Array Oper} {Q : Exit → Act → World → Prop} {S : World → Prop} {j : Nat} : ∀ (n : Nat) (done : Array Bool) (a : Act) (w : World), wpTill P md ops Q S j n done a w → wpAny P md ops Q n done a w
  | 0, _, _, _, h => h
  | n + 1, _, _, _, h => ⟨h.1, fun k hk => wpOp_mono (fun b u hb => wpTill.any n _ b u hb.2) (h.2 k hk)⟩

theorem wpTill.begin {P : Program} {ops : Array Oper} {Q : Exit → Act → World → Prop} (S : World → Prop) (j : Nat) {id : Nat} {a : Act} {w : World} (hm : P.follows .mixedOrders = true)
    (h : wpTill P .any ops Q S j ops.size (Array.replicate ops.size false) a w.drew) : (Code.region id ops true).wp P Q a w :=
  wp_region_any hm (h.any _ _ _ _)

theorem no_wait {b : Bool} {p : Prop} (hb : b = true) (h : b = false) : p := by rw [hb] at h; cases h

/-- Does number j wait for number i? -/
def awaits (md : Region.Mode) (ops : Array Oper) (j i : Nat) : Bool := ((ops[j]?).map fun o => o.after.any fun e => Region.binds md e && e.on == i).getD false

theorem wpTill.first {P : Program} {md : Region.Mode} {ops : Array Oper} {Q : Exit → Act → World → Prop} {S : World → Prop} {j i : Nat} {o : Oper} {v : Value} (hi : ops[i]? = some o) (hs : Region.noSelect ops = true) (hji : awaits md ops j i = true) (hne : i ≠ j)
    (hQ : ∀ c a w, Q (.panic c) (a.put o.dst v) w → Q (.panic c) a w) :
    ∀ (n : Nat) (done : Array Bool) (a : Act) (w : World),
      (∀ k p, ops[k]? = some p → k ≠ i → done.getD k true = false → (∀ e ∈ p.after, Region.binds md e = true → e.on ≠ i) → o.apart ops p = true) →
      i ∈ Region.ready md ops done → done.getD j true = false → YieldsIf P ops S o v a → S w →
      wpTill P md ops Q S j n (done.setIfInBounds i true) (a.put o.dst v) w → wpTill P md ops Q S j (n + 1) done a w := by
  have hsel := Region.noSelect_spec hs
  intro n
  induction n with
  | zero =>
    intro done a w _ hr _ hy hS H
    refine ⟨fun h0 => (by rw [h0] at hr; cases hr), fun k hk => ?_⟩
    rcases Nat.decEq k i with hki | rfl
    · have h1 := ready_mono hk hki
      rw [H.1] at h1
      cases h1
    · exact hy.wpOp hi hS ⟨fun _ => hS, H⟩
  | succ n ih =>
    intro done a w hfree hr hdj hy hS H
    refine ⟨fun h0 => (by rw [h0] at hr; cases hr), fun k hk => ?_⟩
    rcases Nat.decEq k i with hki | rfl
    · have h1 := H.2 k (ready_mono hk hki)
      obtain ⟨hun, p, hp, hall⟩ := mem_ready.1 hk
      have hno : ∀ e ∈ p.after, Region.binds md e = true → e.on ≠ i := by
        intro e he hb hei
        have h2 := hall e he hb
        have h3 := (mem_ready.1 hr).1
        rw [hei] at h2
        simp only [Array.getD_eq_getD_getElem?] at h2 h3
        cases hx : done[i]? with
        | none => rw [hx] at h2; cases h2
        | some x => rw [hx] at h2 h3; simp at h2 h3; rw [h2] at h3; cases h3
      have hkj : k ≠ j := by
        rintro rfl
        simp only [awaits, hp, Option.map_some, Option.getD_some, Array.any_eq_true', Bool.and_eq_true, beq_iff_eq] at hji
        obtain ⟨e, he, hb, hei⟩ := hji
        exact hno e he hb hei
      have h2 := wpOp_putIf hp (hfree k p hp hki hun hno) (fun cs b => hsel i o cs b hi) (fun cs b => hsel k p cs b hp) hQ hy h1
      have hdj' : (done.setIfInBounds k true).getD j true = false := by rw [getD_set_ne true hkj]; exact hdj
      refine wpOp_mono (fun b u hb => ?_) h2
      obtain ⟨hyb, hSb, hrest⟩ := hb
      have hSu : S u := hSb (by rw [getD_set_ne true hkj, getD_set_ne true hne]; exact hdj)
      refine ⟨fun _ => hSu, ih _ b u (fun k' p' hp' hk' hun' hno' => hfree k' p' hp' hk' ?_ hno') (ready_mono hr (Ne.symm hki)) hdj' hyb hSu ?_⟩
      · rcases Nat.decEq k k' with hkk | rfl
        · rwa [getD_set_ne true hkk] at hun'
        · exact hun
      · rw [Array.setIfInBounds_comm _ _ hki]
        exact hrest
    · exact hy.wpOp hi hS ⟨fun _ => hS, H⟩

/-- Number i is taken first. -/
theorem wpTill.take {P : Program} {md : Region.Mode} {ops : Array Oper} {Q : Exit → Act → World → Prop} {S : World → Prop} {j : Nat} (i : Nat) {o : Oper} (v : Value) {n : Nat} {done : Array Bool} {a : Act} {w : World} (hi : ops[i]? = some o) (hs : Region.noSelect ops = true)
    (hc : (awaits md ops j i && Region.free md ops done i && (Region.ready md ops done).contains i && !done.getD j true && !(i == j)) = true)
    (hQ : ∀ c a w, Q (.panic c) (a.put o.dst v) w → Q (.panic c) a w) (hS : S w) (hw : Region.wanted o (yielded ops a.tmps) = true) (hy : ∀ u, S u → (execOp a.eval o).run P u = .ok (.value v) u)
    (h : wpTill P md ops Q S j n (done.setIfInBounds i true) (a.put o.dst v) w) : wpTill P md ops Q S j (n + 1) done a w := by
  simp only [Bool.and_eq_true, Bool.not_eq_true', beq_eq_false_iff_ne, List.contains_iff_mem] at hc
  obtain ⟨⟨⟨⟨h1, h2⟩, h3⟩, h4⟩, h5⟩ := hc
  exact wpTill.first hi hs h1 h5 hQ n done a w (Region.free_spec hi h2) h3 h4 (.inl ⟨hw, hy⟩) hS h

/-- The one that may come up comes up. -/
theorem wpTill.next {P : Program} {md : Region.Mode} {ops : Array Oper} {Q : Exit → Act → World → Prop} {S : World → Prop} {j : Nat} (i : Nat) {o : Oper} {n : Nat} {done : Array Bool} {a : Act} {w : World} (hi : ops[i]? = some o) (hr : Region.ready md ops done = [i]) (hw : Region.wanted o (yielded ops a.tmps) = true)
    (h : ∀ K : Act → World → Prop, (∀ b u, ((done.setIfInBounds i true).getD j true = false → S u) → wpTill P md ops Q S j n (done.setIfInBounds i true) b u → K b u) → o.wp P a w K Q) : wpTill P md ops Q S j (n + 1) done a w := by
  refine ⟨fun h0 => (by rw [hr] at h0; cases h0), fun k hk => ?_⟩
  rw [hr] at hk
  obtain rfl := List.mem_singleton.1 hk
  unfold wpOp
  simp only [hi, hw, if_true]
  exact .inl (h _ fun b u hS hb => ⟨hS, hb⟩)

/-- One of two comes up. -/
theorem wpTill.either {P : Program} {md : Region.Mode} {ops : Array Oper} {Q : Exit → Act → World → Prop} {S : World → Prop} {j : Nat} (i k : Nat) {o p : Oper} {n : Nat} {done : Array Bool} {a : Act} {w : World} (hi : ops[i]? = some o) (hk : ops[k]? = some p) (hr : Region.ready md ops done = [i, k]) (hw : Region.wanted o (yielded ops a.tmps) = true) (hv : Region.wanted p (yielded ops a.tmps) = true)
    (h : ∀ K : Act → World → Prop, (∀ b u, ((done.setIfInBounds i true).getD j true = false → S u) → wpTill P md ops Q S j n (done.setIfInBounds i true) b u → K b u) → o.wp P a w K Q)
    (h' : ∀ K : Act → World → Prop, (∀ b u, ((done.setIfInBounds k true).getD j true = false → S u) → wpTill P md ops Q S j n (done.setIfInBounds k true) b u → K b u) → p.wp P a w K Q) : wpTill P md ops Q S j (n + 1) done a w := by
  refine ⟨fun h0 => (by rw [hr] at h0; cases h0), fun x hx => ?_⟩
  rw [hr] at hx
  rcases List.mem_cons.1 hx with rfl | hx
  · unfold wpOp
    simp only [hi, hw, if_true]
    exact .inl (h _ fun b u hS hb => ⟨hS, hb⟩)
  · obtain rfl := List.mem_singleton.1 hx
    unfold wpOp
    simp only [hk, hv, if_true]
    exact .inl (h' _ fun b u hS hb => ⟨hS, hb⟩)

theorem wpTill.done {P : Program} {md : Region.Mode} {ops : Array Oper} {Q : Exit → Act → World → Prop} {S : World → Prop} {j n : Nat} {done : Array Bool} {a : Act} {w : World} (hr : Region.ready md ops done = []) (h : Q .normal a w) : wpTill P md ops Q S j n done a w := by
  cases n with
  | zero => exact ⟨hr, h⟩
  | succ n => exact ⟨fun _ => h, by rw [hr]; intro k hk; cases hk⟩
end Go.Proofs.Ytodpbkcdcchljaa
