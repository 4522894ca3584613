/- The base, part I: what the elder chapters' texts prove, of the functions that this seat has. -/
import Derived.Test.YtlppcfeimpcbjaaGreatBaseA
import Derived.OrdersHeld
import Derived.Test.YtlppcfeimpcbjaaGreatBaseH
set_option linter.unusedSimpArgs false
set_option linter.unusedVariables false

/- A region that draws its order, whose last operation writes what its loads read: a condition S on the world is held until that operation has come up, and no longer. -/
namespace Go.Proofs.YtlppcfeimpcbjaaGreat
open Go.RowKit

/-- Whatever order is picked; as long as number j has not come up, S holds. -/
def wpTill (P : Program) (md : Region.Mode) (ops : Array Oper) (Q : Exit → Act → World → Prop) (S : World → Prop) (j : Nat) : Nat → Array Bool → Act → World → Prop
  | 0, done, a, w => Region.ready md ops done = [] ∧ Q .normal a w
  | n + 1, done, a, w => (Region.ready md ops done = [] → Q .normal a w) ∧
    ∀ k ∈ Region.ready md ops done, wpOp P ops Q k (fun b u => ((done.setIfInBounds k true).getD j true = false → S u) ∧ wpTill P md ops Q S j n (done.setIfInBounds k true) b u) a w

theorem wpTill.any {P : Program} {md : Region.Mode} {ops : Array Oper} {Q : Exit → Act → World → Prop} {S : World → Prop} {j : Nat} : ∀ (n : Nat) (done : Array Bool) (a : Act) (w : World), wpTill P md ops Q S j n done a w → wpAny P md ops Q n done a w
  | 0, _, _, _, h => h
  | n + 1, _, _, _, h => ⟨h.1, fun k hk => wpOp_mono (fun b u hb => wpTill.any n _ b u hb.2) (h.2 k hk)⟩

theorem wpTill.begin {P : Program} {ops : Array Oper} {Q : Exit → Act → World → Prop} (S : World → Prop) (j : Nat) {id : Nat} {a : Act} {w : World} (hm : P.follows .mixedOrders = true)
    (h : wpTill P .any ops Q S j ops.size (Array.replicate ops.size false) a w.drew) : (Code.region id ops true).wp P Q a w :=
  wp_region_any hm (h.any _ _ _ _)

theorem no_wait {b : Bool} {p : Prop} (hb : b = true) (h : b = false) : p := by rw [hb] at h; cases h

/-- Does number j wait for number i? -/
def awaits (md : Region.Mode) (ops : Array Oper) (j i : Nat) : Bool := ((ops[j]?).map fun o => o.after.any fun e => Region.binds md e && e.on == i).getD false

theorem wpTill.first {P : Program} {md : Region.Mode} {ops : Array Oper} {Q : Exit → Act → World → Prop} {S : World → Prop} {j i : Nat} {o : Oper} {v : Value} (hi : ops[i]? = some o) (hs : Region.noSelect ops = true) (hji : awaits md ops j i = true) (hne : i ≠ j)
    (hQ : ∀ c a w, Q (.panic c) (a.put o.dst v) w → Q (.panic c) a w) :
    ∀ (n : Nat) (done : Array Bool) (a : Act) (w : World),
      (∀ k p, ops[k]? = some p → k ≠ i → done.getD k true = false → (∀ e ∈ p.after, Region.binds md e = true → e.on ≠ i) → o.apart ops p = true) →
      i ∈ Region.ready md ops done → done.getD j true = false → YieldsIf P ops S o v a → S w →
      wpTill P md ops Q S j n (done.setIfInBounds i true) (a.put o.dst v) w → wpTill P md ops Q S j (n + 1) done a w := by
  have hsel := Region.noSelect_spec hs
  intro n
  induction n with
  | zero =>
    intro done a w _ hr _ hy hS H
    refine ⟨fun h0 => (by rw [h0] at hr; cases hr), fun k hk => ?_⟩
    rcases Nat.decEq k i with hki | rfl
    · have h1 := ready_mono hk hki
      rw [H.1] at h1
      cases h1
    · exact hy.wpOp hi hS ⟨fun _ => hS, H⟩
  | succ n ih =>
    intro done a w hfree hr hdj hy hS H
    refine ⟨fun h0 => (by rw [h0] at hr; cases hr), fun k hk => ?_⟩
    rcases Nat.decEq k i with hki | rfl
    · have h1 := H.2 k (ready_mono hk hki)
      obtain ⟨hun, p, hp, hall⟩ := mem_ready.1 hk
      have hno : ∀ e ∈ p.after, Region.binds md e = true → e.on ≠ i := by
        intro e he hb hei
        have h2 := hall e he hb
        have h3 := (mem_ready.1 hr).1
        rw [hei] at h2
        simp only [Array.getD_eq_getD_getElem?] at h2 h3
        cases hx : done[i]? with
        | none => rw [hx] at h2; cases h2
        | some x => rw [hx] at h2 h3; simp at h2 h3; rw [h2] at h3; cases h3
      have hkj : k ≠ j := by
        rintro rfl
        simp only [awaits, hp, Option.map_some, Option.getD_some, Array.any_eq_true', Bool.and_eq_true, beq_iff_eq] at hji
        obtain ⟨e, he, hb, hei⟩ := hji
        exact hno e he hb hei
      have h2 := wpOp_putIf hp (hfree k p hp hki hun hno) (fun cs b => hsel i o cs b hi) (fun cs b => hsel k p cs b hp) hQ hy h1
      have hdj' : (done.setIfInBounds k true).getD j true = false := by rw [getD_set_ne true hkj]; exact hdj
      refine wpOp_mono (fun b u hb => ?_) h2
      obtain ⟨hyb, hSb, hrest⟩ := hb
      have hSu : S u := hSb (by rw [getD_set_ne true hkj, getD_set_ne true hne]; exact hdj)
      refine ⟨fun _ => hSu, ih _ b u (fun k' p' hp' hk' hun' hno' => hfree k' p' hp' hk' ?_ hno') (ready_mono hr (Ne.symm hki)) hdj' hyb hSu ?_⟩
      · rcases Nat.decEq k k' with hkk | rfl
        · rwa [getD_set_ne true hkk] at hun'
        · exact hun
      · rw [Array.setIfInBounds_comm _ _ hki]
        exact hrest
    · exact hy.wpOp hi hS ⟨fun _ => hS, H⟩

/-- Number i is taken first. -/
theorem wpTill.take {P : Program} {md : Region.Mode} {ops : Array Oper} {Q : Exit → Act → World → Prop} {S : World → Prop} {j : Nat} (i : Nat) {o : Oper} (v : Value) {n : Nat} {done : Array Bool} {a : Act} {w : World} (hi : ops[i]? = some o) (hs : Region.noSelect ops = true)
    (hc : (awaits md ops j i && Region.free md ops done i && (Region.ready md ops done).contains i && !done.getD j true && !(i == j)) = true)
    (hQ : ∀ c a w, Q (.panic c) (a.put o.dst v) w → Q (.panic c) a w) (hS : S w) (hw : Region.wanted o (yielded ops a.tmps) = true) (hy : ∀ u, S u → (execOp a.eval o).run P u = .ok (.value v) u)
    (h : wpTill P md ops Q S j n (done.setIfInBounds i true) (a.put o.dst v) w) : wpTill P md ops Q S j (n + 1) done a w := by
  simp only [Bool.and_eq_true, Bool.not_eq_true', beq_eq_false_iff_ne, List.contains_iff_mem] at hc
  obtain ⟨⟨⟨⟨h1, h2⟩, h3⟩, h4⟩, h5⟩ := hc
  exact wpTill.first hi hs h1 h5 hQ n done a w (Region.free_spec hi h2) h3 h4 (.inl ⟨hw, hy⟩) hS h

/-- The one that may come up comes up. -/
theorem wpTill.next {P : Program} {md : Region.Mode} {ops : Array Oper} {Q : Exit → Act → World → Prop} {S : World → Prop} {j : Nat} (i : Nat) {o : Oper} {n : Nat} {done : Array Bool} {a : Act} {w : World} (hi : ops[i]? = some o) (hr : Region.ready md ops done = [i]) (hw : Region.wanted o (yielded ops a.tmps) = true)
    (h : ∀ K : Act → World → Prop, (∀ b u, ((done.setIfInBounds i true).getD j true = false → S u) → wpTill P md ops Q S j n (done.setIfInBounds i true) b u → K b u) → o.wp P a w K Q) : wpTill P md ops Q S j (n + 1) done a w := by
  refine ⟨fun h0 => (by rw [hr] at h0; cases h0), fun k hk => ?_⟩
  rw [hr] at hk
  obtain rfl := List.mem_singleton.1 hk
  unfold wpOp
  simp only [hi, hw, if_true]
  exact .inl (h _ fun b u hS hb => ⟨hS, hb⟩)

/-- One of two comes up. -/
theorem wpTill.either {P : Program} {md : Region.Mode} {ops : Array Oper} {Q : Exit → Act → World → Prop} {S : World → Prop} {j : Nat} (i k : Nat) {o p : Oper} {n : Nat} {done : Array Bool} {a : Act} {w : World} (hi : ops[i]? = some o) (hk : ops[k]? = some p) (hr : Region.ready md ops done = [i, k]) (hw : Region.wanted o (yielded ops a.tmps) = true) (hv : Region.wanted p (yielded ops a.tmps) = true)
    (h : ∀ K : Act → World → Prop, (∀ b u, ((done.setIfInBounds i true).getD j true = false → S u) → wpTill P md ops Q S j n (done.setIfInBounds i true) b u → K b u) → o.wp P a w K Q)
    (h' : ∀ K : Act → World → Prop, (∀ b u, ((done.setIfInBounds k true).getD j true = false → S u) → wpTill P md ops Q S j n (done.setIfInBounds k true) b u → K b u) → p.wp P a w K Q) : wpTill P md ops Q S j (n + 1) done a w := by
  refine ⟨fun h0 => (by rw [hr] at h0; cases h0), fun x hx => ?_⟩
  rw [hr] at hx
  rcases List.mem_cons.1 hx with rfl | hx
  · unfold wpOp
    simp only [hi, hw, if_true]
    exact .inl (h _ fun b u hS hb => ⟨hS, hb⟩)
  · obtain rfl := List.mem_singleton.1 hx
    unfold wpOp
    simp only [hk, hv, if_true]
    exact .inl (h' _ fun b u hS hb => ⟨hS, hb⟩)

theorem wpTill.done {P : Program} {md : Region.Mode} {ops : Array Oper} {Q : Exit → Act → World → Prop} {S : World → Prop} {j n : Nat} {done : Array Bool} {a : Act} {w : World} (hr : Region.ready md ops done = []) (h : Q .normal a w) : wpTill P md ops Q S j n done a w := by
  cases n with
  | zero => exact ⟨hr, h⟩
  | succ n => exact ⟨fun _ => h, by rw [hr]; intro k hk; cases hk⟩
end Go.Proofs.YtlppcfeimpcbjaaGreat


/- A region that draws its order: a row of calls, and two new variables whose allocs may come up anywhere among them. A condition J, of how many calls and which allocs have come up, is kept by each; so each operation is stepped through once. -/
namespace Go.Proofs.YtlppcfeimpcbjaaGreat
open Go.RowKit

/-- What has come up, after c of the calls cs, and the allocs a1, a2 or not. -/
def pairDone (base : Array Bool) (cs : List Nat) (a1 a2 : Nat) (c : Nat) (p q : Bool) : Array Bool :=
  let d := (cs.take c).foldl (fun d i => d.setIfInBounds i true) base
  let d := if p then d.setIfInBounds a1 true else d
  if q then d.setIfInBounds a2 true else d

def pairOne (md : Region.Mode) (ops : Array Oper) (base : Array Bool) (cs : List Nat) (a1 a2 : Nat) (c : Nat) (p q : Bool) : Bool :=
  let d := pairDone base cs a1 a2 c p q
  ((c == cs.length && p && q) || !(Region.ready md ops d).isEmpty) &&
  ((c == cs.length && p && q) || (Region.ready md ops d).all fun i =>
    (c < cs.length && cs[c]? == some i && d.setIfInBounds i true == pairDone base cs a1 a2 (c + 1) p q) ||
    (!p && i == a1 && d.setIfInBounds i true == pairDone base cs a1 a2 c true q) ||
    (!q && i == a2 && d.setIfInBounds i true == pairDone base cs a1 a2 c p true))

def pairAll (md : Region.Mode) (ops : Array Oper) (base : Array Bool) (cs : List Nat) (a1 a2 : Nat) : Bool :=
  (List.range (cs.length + 1)).all fun c => pairOne md ops base cs a1 a2 c false false && pairOne md ops base cs a1 a2 c true false && pairOne md ops base cs a1 a2 c false true && pairOne md ops base cs a1 a2 c true true

theorem pairAll_one {md : Region.Mode} {ops : Array Oper} {base : Array Bool} {cs : List Nat} {a1 a2 : Nat} (h : pairAll md ops base cs a1 a2 = true) {c : Nat} (hc : c ≤ cs.length) (p q : Bool) : pairOne md ops base cs a1 a2 c p q = true := by
  have := List.all_eq_true.1 h c (List.mem_range.2 (by omega))
  simp only [Bool.and_eq_true] at this
  cases p <;> cases q
  · exact this.1.1.1
  · exact this.1.2
  · exact this.1.1.2
  · exact this.2

/-- An operation, stepped through. -/
def stepsTo (P : Program) (ops : Array Oper) (Q : Exit → Act → World → Prop) (i : Nat) (A B : Act → World → Prop) : Prop :=
  ∃ o, ops[i]? = some o ∧ o.guard = none ∧ ∀ a w (K : Act → World → Prop), A a w → (∀ b u, B b u → K b u) → o.wp P a w K Q

theorem stepsTo.wpOp {P : Program} {ops : Array Oper} {Q : Exit → Act → World → Prop} {i : Nat} {A B K : Act → World → Prop} (h : stepsTo P ops Q i A B) {a : Act} {w : World} (ha : A a w) (hk : ∀ b u, B b u → K b u) : wpOp P ops Q i K a w := by
  obtain ⟨o, ho, hg, hs⟩ := h
  unfold Go.wpOp
  have hw : Region.wanted o (yielded ops a.tmps) = true := by unfold Region.wanted; rw [hg]
  simp only [ho, hw, if_true]
  exact .inl (hs a w K ha hk)

theorem wpTill.pair {P : Program} {md : Region.Mode} {ops : Array Oper} {Q : Exit → Act → World → Prop} {S : World → Prop} {j : Nat} (cs : List Nat) (a1 a2 : Nat) {n : Nat} {base : Array Bool} (J : Nat → Bool → Bool → Act → World → Prop)
    (hc : pairAll md ops base cs a1 a2 = true)
    (hS : ∀ c p q a w, J c p q a w → S w)
    (h1 : ∀ c i, cs[c]? = some i → ∀ p q, stepsTo P ops Q i (J c p q) (J (c + 1) p q))
    (h3 : ∀ c q, stepsTo P ops Q a1 (J c false q) (J c true q))
    (h4 : ∀ c p, stepsTo P ops Q a2 (J c p false) (J c p true))
    (hf : ∀ a w, J cs.length true true a w → wpTill P md ops Q S j n (pairDone base cs a1 a2 cs.length true true) a w)
    {a : Act} {w : World} (h : J 0 false false a w) : wpTill P md ops Q S j (n + cs.length + 2) base a w := by
  have main : ∀ (m c : Nat) (p q : Bool) (a : Act) (w : World), c ≤ cs.length → (cs.length - c) + (if p then 0 else 1) + (if q then 0 else 1) = m → J c p q a w → wpTill P md ops Q S j (n + m) (pairDone base cs a1 a2 c p q) a w := by
    intro m
    induction m with
    | zero =>
      intro c p q a w hcl hm hJ
      cases p <;> cases q <;> simp at hm
      obtain rfl : c = cs.length := by omega
      exact hf a w hJ
    | succ m ih =>
      intro c p q a w hcl hm hJ
      have h0 := pairAll_one hc hcl p q
      simp only [pairOne, Bool.and_eq_true, Bool.or_eq_true] at h0
      obtain ⟨e1, e2⟩ := h0
      have hne : ¬ ((c == cs.length) = true ∧ p = true ∧ q = true) := by
        rintro ⟨h1, h2, h3⟩
        have := eq_of_beq h1
        subst h2 h3
        simp at hm
        omega
      have e1' := e1.resolve_left (fun h => hne ⟨h.1.1, h.1.2, h.2⟩)
      have e2' := e2.resolve_left (fun h => hne ⟨h.1.1, h.1.2, h.2⟩)
      refine ⟨fun hr => ?_, fun k hk => ?_⟩
      · rw [hr] at e1'
        simp at e1'
      · have hk' := List.all_eq_true.1 e2' k hk
        simp only [Bool.or_eq_true, Bool.and_eq_true, Bool.not_eq_true', decide_eq_true_eq] at hk'
        rcases hk' with (⟨⟨hlt, hk1⟩, hd⟩ | ⟨⟨hp, hk1⟩, hd⟩) | ⟨⟨hq, hk1⟩, hd⟩
        · have hk2 := eq_of_beq hk1
          refine (h1 c k hk2 p q).wpOp hJ fun b u hb => ⟨fun _ => hS _ _ _ _ _ hb, ?_⟩
          rw [eq_of_beq hd]
          exact ih (c + 1) p q b u hlt (by omega) hb
        · obtain rfl := eq_of_beq hk1
          subst hp
          refine (h3 c q).wpOp hJ fun b u hb => ⟨fun _ => hS _ _ _ _ _ hb, ?_⟩
          rw [eq_of_beq hd]
          exact ih c true q b u hcl (by simp at hm ⊢; omega) hb
        · obtain rfl := eq_of_beq hk1
          subst hq
          refine (h4 c p).wpOp hJ fun b u hb => ⟨fun _ => hS _ _ _ _ _ hb, ?_⟩
          rw [eq_of_beq hd]
          exact ih c p true b u hcl (by cases p <;> simp at hm ⊢ <;> omega) hb
  have := main (cs.length + 2) 0 false false a w (Nat.zero_le _) (by simp) h
  rwa [show n + (cs.length + 2) = n + cs.length + 2 from by omega, show pairDone base cs a1 a2 0 false false = base from rfl] at this

/-- The same with one alloc, which may come up after the last call, too. -/
def soloDone (base : Array Bool) (cs : List Nat) (a1 : Nat) (c : Nat) (p : Bool) : Array Bool :=
  let d := (cs.take c).foldl (fun d i => d.setIfInBounds i true) base
  if p then d.setIfInBounds a1 true else d

def soloOne (md : Region.Mode) (ops : Array Oper) (base : Array Bool) (cs : List Nat) (a1 : Nat) (c : Nat) (p : Bool) : Bool :=
  let d := soloDone base cs a1 c p
  !(Region.ready md ops d).isEmpty &&
  (Region.ready md ops d).all fun i =>
    (cs[c]? == some i && d.setIfInBounds i true == soloDone base cs a1 (c + 1) p) ||
    (!p && i == a1 && d.setIfInBounds i true == soloDone base cs a1 c true)

def soloAll (md : Region.Mode) (ops : Array Oper) (base : Array Bool) (cs : List Nat) (a1 : Nat) : Bool :=
  (List.range cs.length).all fun c => soloOne md ops base cs a1 c false && soloOne md ops base cs a1 c true

theorem soloAll_one {md : Region.Mode} {ops : Array Oper} {base : Array Bool} {cs : List Nat} {a1 : Nat} (h : soloAll md ops base cs a1 = true) {c : Nat} (hc : c < cs.length) (p : Bool) : soloOne md ops base cs a1 c p = true := by
  have := List.all_eq_true.1 h c (List.mem_range.2 (by omega))
  simp only [Bool.and_eq_true] at this
  cases p
  · exact this.1
  · exact this.2

theorem wpTill.solo {P : Program} {md : Region.Mode} {ops : Array Oper} {Q : Exit → Act → World → Prop} {S : World → Prop} {j : Nat} (cs : List Nat) (a1 : Nat) {n : Nat} {base : Array Bool} (J : Nat → Bool → Act → World → Prop)
    (hc : soloAll md ops base cs a1 = true)
    (hS : ∀ c p a w, J c p a w → S w)
    (h1 : ∀ c i, cs[c]? = some i → ∀ p, stepsTo P ops Q i (J c p) (J (c + 1) p))
    (h3 : ∀ c, stepsTo P ops Q a1 (J c false) (J c true))
    (hf : ∀ a w, J cs.length true a w → wpTill P md ops Q S j n (soloDone base cs a1 cs.length true) a w)
    (hg : ∀ a w, J cs.length false a w → wpTill P md ops Q S j (n + 1) (soloDone base cs a1 cs.length false) a w)
    {a : Act} {w : World} (h : J 0 false a w) : wpTill P md ops Q S j (n + cs.length + 1) base a w := by
  have main : ∀ (m c : Nat) (p : Bool) (a : Act) (w : World), c ≤ cs.length → (cs.length - c) + (if p then 0 else 1) = m → J c p a w → wpTill P md ops Q S j (n + m) (soloDone base cs a1 c p) a w := by
    intro m
    induction m with
    | zero =>
      intro c p a w hcl hm hJ
      cases p <;> simp at hm
      obtain rfl : c = cs.length := by omega
      exact hf a w hJ
    | succ m ih =>
      intro c p a w hcl hm hJ
      rcases Nat.lt_or_ge c cs.length with hlt | hge
      · have h0 := soloAll_one hc hlt p
        simp only [soloOne, Bool.and_eq_true] at h0
        obtain ⟨e1, e2⟩ := h0
        refine ⟨fun hr => ?_, fun k hk => ?_⟩
        · rw [hr] at e1
          simp at e1
        · have hk' := List.all_eq_true.1 e2 k hk
          simp only [Bool.or_eq_true, Bool.and_eq_true, Bool.not_eq_true'] at hk'
          rcases hk' with ⟨hk1, hd⟩ | ⟨⟨hp, hk1⟩, hd⟩
          · have hk2 := eq_of_beq hk1
            refine (h1 c k hk2 p).wpOp hJ fun b u hb => ⟨fun _ => hS _ _ _ _ hb, ?_⟩
            rw [eq_of_beq hd]
            exact ih (c + 1) p b u hlt (by omega) hb
          · obtain rfl := eq_of_beq hk1
            subst hp
            refine (h3 c).wpOp hJ fun b u hb => ⟨fun _ => hS _ _ _ _ hb, ?_⟩
            rw [eq_of_beq hd]
            exact ih c true b u hcl (by simp at hm ⊢; omega) hb
      · obtain rfl : c = cs.length := by omega
        cases p
        · simp at hm
          subst hm
          exact hg a w hJ
        · simp at hm
  have := main (cs.length + 1) 0 false a w (Nat.zero_le _) (by simp) h
  rwa [show n + (cs.length + 1) = n + cs.length + 1 from by omega, show soloDone base cs a1 0 false = base from rfl] at this
theorem wpTill.same {P : Program} {md : Region.Mode} {ops : Array Oper} {Q : Exit → Act → World → Prop} {S : World → Prop} {j n : Nat} {d e : Array Bool} {a : Act} {w : World} (h : d = e) (H : wpTill P md ops Q S j n e a w) : wpTill P md ops Q S j n d a w := by
  subst h
  exact H
end Go.Proofs.YtlppcfeimpcbjaaGreat


/- rat.size, Int, product, Mul, Div. -/
namespace Go.Proofs.YtlppcfeimpcbjaaGreat
open Go.RowKit

theorem size_n (w : World) (z : Int) (h0 : -9223372036854775808 ≤ z) (h1 : z ≤ 9223372036854775807) :
    Calls Tryz.prog 98 #[.int .i64 z] w fun e w' => ∃ v, e = .returned v ∧ Can (fun k => w.heap.size ≤ k) w' v z.natAbs 2 ∧ Fr (fun k => k < w.heap.size) w w' := by
  go_enter Tryz.func98, Tryz.ntmps98
  by_cases hz : z < 0
  · have w1 : IntKind.i64.wrap (z + 1) = z + 1 := by rw [IntKind.wrap_i64]; omega
    have w2 : IntKind.i64.wrap (-(z + 1)) = -(z + 1) := by rw [IntKind.wrap_i64]; omega
    have w3 : IntKind.u64.wrap (-(z + 1)) = -(z + 1) := by rw [IntKind.wrap_u64]; omega
    have w4 : IntKind.u64.wrap (-(z + 1) + 1) = (z.natAbs : Int) := by rw [IntKind.wrap_u64]; omega
    go_wp2_with fail
    refine (of_lit _ z.natAbs _ rfl (by omega)).mono ?_
    rintro e w1 ⟨v1, rfl, h1, hf⟩
    go_wp2_with fail
    go_ret
    exact ⟨v1, rfl, h1, hf⟩
  · have w3 : IntKind.u64.wrap z = (z.natAbs : Int) := by rw [IntKind.wrap_u64]; omega
    go_wp2_with fail
    refine (of_lit _ z.natAbs _ rfl (by omega)).mono ?_
    rintro e w1 ⟨v1, rfl, h1, hf⟩
    go_wp2_with fail
    go_ret
    exact ⟨v1, rfl, h1, hf⟩

set_option maxHeartbeats 1000000 in
theorem int_n (w : World) (z : Int) (h0 : -9223372036854775808 ≤ z) (h1 : z ≤ 9223372036854775807) :
    Calls Tryz.prog 62 #[.int .i64 z] w fun e w' => ∃ v1 v2, e = .returned (.agg #[.bool (sg (z : Rat)), v1, v2]) ∧ RV (fun k => w.heap.size ≤ k) w' v1 v2 (z : Rat) 2 ∧ Fr (fun k => k < w.heap.size) w w' := by
  have F := fr_nz (fun k => k < w.heap.size) w
  have hb := box_nz w
  have hs : decide (z < 0) = sg (z : Rat) := rfl
  have HS := Lib.hid hs
  clear hs
  go_enter Tryz.func62, Tryz.ntmps62
  go_wp2_with fail
  refine (size_n _ z h0 h1).mono ?_
  rintro e w1 ⟨v1, rfl, h2, hf⟩
  obtain ⟨A1, n1, c1, rfl⟩ := h2.form
  have s1 := hf.size
  simp only [World.size_alloc] at h2 s1
  replace hb := hb.keep hf
  replace F := fr_then F hf
  clear hf
  go_wp2_with fail
  refine (one_n _).mono ?_
  rintro e w2 ⟨v2, rfl, h3, hf⟩
  obtain ⟨A2, n2, c2, rfl⟩ := h3.form
  replace h2 := h2.keep hf
  replace hb := hb.keep hf
  have s2 := hf.size
  replace F := fr_then F hf
  clear hf
  go_wp2_with ((with_reducible apply wpList_st3); rfl; rfl; exact hb; exact rat3; rfl; rfl; rfl; intro w9 B9 F9)
  refine bodyPost_ret (results_cell3 rfl rfl B9 Tryz.underlying54 rat3) rfl ?_
  exact ⟨_, _, by rw [HS.out], ⟨h2.out F9 (fun k hk => by omega) (by omega), h3.out F9 (fun k hk => by omega) (by omega)⟩, F.comp F9 fun k hk h => ⟨h, by omega⟩⟩

/-- the products of the first of two -/
def upto2 (x y : Rat) : Nat → Rat
  | 0 => 1
  | 1 => x
  | _ => x * y

set_option maxHeartbeats 4000000 in
theorem product_n {S T : Nat → Prop} (w : World) (g : Nat) (s t : Bool) (vn vd un ud : Value) (x y : Rat) (N D M E L : Nat) (hx : RI S w s vn vd x N D L) (hy : RI T w t un ud y M E L)
    (hg : w.heap[g]? = some (.cells #[.bool s, vn, vd, .bool t, un, ud] 54 (0, 0))) (hL1 : 1 ≤ L) (hl : L ≤ 104857600) :
    Calls Tryz.prog 105 #[.slice (some ⟨g, 0, none⟩) 2 2] w fun e w' => ∃ v1 v2, e = .returned (.agg #[.bool (sg (x * y)), v1, v2]) ∧ RV (fun k => w.heap.size ≤ k) w' v1 v2 (x * y) (6 * L) ∧ Fr (fun k => k < w.heap.size) w w' := by
  obtain ⟨⟨A1, n1, c1, rfl⟩, ⟨A2, n2, c2, rfl⟩⟩ := hx.form
  obtain ⟨⟨A3, n3, c3, rfl⟩, ⟨A4, n4, c4, rfl⟩⟩ := hy.form
  have F := fr_nz (fun k => k < w.heap.size) w
  have hb := box_nz w
  have hgl : g < w.heap.size := lt_of_block hg
  go_enter Tryz.func105, Tryz.ntmps105
  go_wp2_with fail
  refine (int_n _ 1 (by decide) (by decide)).mono ?_
  rintro e w1 ⟨v1, v2, rfl, h1, hf⟩
  obtain ⟨⟨B1, m1, k1, rfl⟩, ⟨B2, m2, k2, rfl⟩⟩ := h1.form
  have s1 := hf.size
  simp only [World.size_alloc] at h1 s1
  have s2 : sg ((1 : Int) : Rat) = sg 1 := rfl
  have h1' : RV (fun k => w.heap.size + 1 ≤ k ∧ k < w1.heap.size) w1 (.slice B1 m1 k1) (.slice B2 m2 k2) (1 : Rat) 2 := ⟨⟨h1.num.own.bd, h1.num.len⟩, ⟨h1.den.own.bd, h1.den.len⟩⟩
  rw [s2]
  replace hb := (hb.keep hf).alloc (.cells #[.bool (sg 1), .slice B1 m1 k1, .slice B2 m2 k2] 54)
  have ho := Box3.new w1 54 (.bool (sg 1)) (.slice B1 m1 k1) (.slice B2 m2 k2)
  replace F := (fr_then F hf).alloc (.cells #[.bool (sg 1), .slice B1 m1 k1, .slice B2 m2 k2] 54)
  replace h1' := h1'.keep ((Fr.refl _ w1).alloc (.cells #[.bool (sg 1), .slice B1 m1 k1, .slice B2 m2 k2] 54))
  clear h1 hf s2
  go_wp2_with fail
  go_loopw [9] (fun i wr => ∃ (n : Nat) (v1 v2 : Value), i = .int .i64 n ∧ n ≤ 2 ∧ Box3 wr w.heap.size 54 (.bool false) (.slice none 0 0) (.slice none 0 0) ∧ Box3 wr w1.heap.size 54 (.bool (sg (upto2 x y n))) v1 v2 ∧ RV (fun k => w.heap.size + 1 ≤ k ∧ k ≠ w1.heap.size) wr v1 v2 (upto2 x y n) ((n + 1) * (2 * L)) ∧ Fr (fun k => k < w.heap.size) w wr) (fun i _ => 2 - (intOf i).toNat)
  case atStart => exact ⟨0, _, _, rfl, by omega, hb, ho, (h1'.wide (by omega)).mono fun k hk => ⟨hk.1, by omega⟩, F⟩
  case round =>
    clear hb ho h1' F
    obtain ⟨n, v1, v2, rfl, hn, hb, ho, hv, F⟩ := hrel
    obtain ⟨⟨B3, m3, k3, rfl⟩, ⟨B4, m4, k4, rfl⟩⟩ := hv.form
    have hgw := F.obj hg hgl
    by_cases h2 : n < 2
    · obtain ⟨s', E1, i1, j1, E2, i2, j2, q, N', D', T', hq, g0, g1, g2, hmul⟩ : ∃ (s' : Bool) (E1 : Option Addr) (i1 j1 : Nat) (E2 : Option Addr) (i2 j2 : Nat) (q : Rat) (N' D' : Nat) (T' : Nat → Prop), RI T' wr s' (.slice E1 i1 j1) (.slice E2 i2 j2) q N' D' L ∧ wr.cell? ⟨g, n * 3, none⟩ = some (.bool s') ∧ wr.cell? ⟨g, n * 3 + 1, none⟩ = some (.slice E1 i1 j1) ∧ wr.cell? ⟨g, n * 3 + 2, none⟩ = some (.slice E2 i2 j2) ∧ upto2 x y n * q = upto2 x y (n + 1) := by
        have hn2 : n = 0 ∨ n = 1 := by omega
        rcases hn2 with rfl | rfl
        · exact ⟨s, A1, n1, c1, A2, n2, c2, x, N, D, S, hx.keep F, (cell_of_row wr g 0 _ _ _ hgw).trans rfl, (cell_of_row wr g 1 _ _ _ hgw).trans rfl, (cell_of_row wr g 2 _ _ _ hgw).trans rfl, Rat.one_mul x⟩
        · exact ⟨t, A3, n3, c3, A4, n4, c4, y, M, E, T, hy.keep F, (cell_of_row wr g 3 _ _ _ hgw).trans rfl, (cell_of_row wr g 4 _ _ _ hgw).trans rfl, (cell_of_row wr g 5 _ _ _ hgw).trans rfl, rfl⟩
      clear hgw
      have hol : w1.heap.size < wr.heap.size := ho.lt
      have hbl := hb.lt
      have al := fun R => (Fr.refl R wr).alloc (.cells #[.bool s', .slice E1 i1 j1, .slice E2 i2 j2] 54)
      have h5 := Box3.new wr 54 (.bool s') (.slice E1 i1 j1) (.slice E2 i2 j2)
      go_wp2_with fail
      refine (norm_n _ _ _ _ _ _ _ _ (hq.keep (al _)) hL1 (by omega)).mono ?_
      rintro e w2 ⟨v1, v2, rfl, hn2, hf⟩
      obtain ⟨⟨C1, a1, d1, rfl⟩, ⟨C2, a2, d2, rfl⟩⟩ := hn2.form
      have s2 := hf.size
      simp only [World.size_alloc] at hn2 s2
      replace h5 := h5.keep hf
      have G := fr_then (al (fun k => k < wr.heap.size)) hf
      clear al hq g0 g1 g2 hf
      go_wp2_with ((with_reducible apply wpList_st3); rfl; rfl; exact h5; exact rat3; rfl; rfl; rfl; intro w3 B5 F5)
      have G3 := (G.comp F5 (R := fun k => k < wr.heap.size) fun k hk h => ⟨h, by omega⟩).drew
      have hp3 := hv.keep G3
      have hq3 := (hn2.out F5 (b := wr.heap.size + 1) (fun k hk => by omega) (by omega)).keep ((Fr.refl (fun k => k < w3.heap.size) w3).drew)
      have ho3 := ho.keep G3
      have hb3 := hb.keep G3
      have h53 := B5.keep ((Fr.refl (fun k => k < w3.heap.size) w3).drew)
      have F3 := fr_then F G3
      obtain ⟨p, hp⟩ : ∃ p, p = upto2 x y n := ⟨_, rfl⟩
      obtain ⟨p', hp'⟩ : ∃ p', p' = upto2 x y (n + 1) := ⟨_, rfl⟩
      rw [← hp, ← hp'] at hmul
      rw [← hp] at hp3 ho3
      have HP := Lib.hid (And.intro hp (And.intro hp' hmul))
      have hX : n * (2 * L) ≤ 2 * (2 * L) := Nat.mul_le_mul_right _ hn
      have hX2 : (n + 1) * (2 * L) = n * (2 * L) + 2 * L := Nat.succ_mul _ _
      have hX3 : (n + 1 + 1) * (2 * L) = n * (2 * L) + 4 * L := by rw [Nat.succ_mul, Nat.succ_mul]; omega
      generalize n * (2 * L) = X at hX hX2 hX3
      clear hp hp' hmul hb ho hv F G G3 B5 F5 h5 hn2
      have S3 : w3.drew.cell? ⟨w1.heap.size, 0, none⟩ = some (.bool (sg p)) ∧ w3.drew.cell? ⟨w1.heap.size, 1, none⟩ = some (.slice B3 m3 k3) ∧ w3.drew.cell? ⟨w1.heap.size, 2, none⟩ = some (.slice B4 m4 k4) ∧ w3.drew.cell? ⟨wr.heap.size, 0, none⟩ = some (.bool (sg q)) ∧ w3.drew.cell? ⟨wr.heap.size, 1, none⟩ = some (.slice C1 a1 d1) ∧ w3.drew.cell? ⟨wr.heap.size, 2, none⟩ = some (.slice C2 a2 d2) := ⟨ho3.c0, ho3.c1, ho3.c2, h53.c0, h53.c1, h53.c2⟩
      refine wpTill.begin (fun u => u.cell? ⟨w1.heap.size, 0, none⟩ = some (.bool (sg p)) ∧ u.cell? ⟨w1.heap.size, 1, none⟩ = some (.slice B3 m3 k3) ∧ u.cell? ⟨w1.heap.size, 2, none⟩ = some (.slice B4 m4 k4) ∧ u.cell? ⟨wr.heap.size, 0, none⟩ = some (.bool (sg q)) ∧ u.cell? ⟨wr.heap.size, 1, none⟩ = some (.slice C1 a1 d1) ∧ u.cell? ⟨wr.heap.size, 2, none⟩ = some (.slice C2 a2 d2)) 19 (by kernel_rfl) ?_
      change wpTill _ _ _ _ _ _ 20 _ _ _
      refine wpTill.take 0 (.pointer (some ⟨w1.heap.size, 0, none⟩)) rfl (by kernel_rfl) (by kernel_rfl) (fun _ _ _ h => h) S3 (by rfl) (fun u hu => by go_simp) ?_
      try simp only [Act.put, List.setIfInBounds_toArray, List.set_cons_zero, List.set_cons_succ]
      refine wpTill.take 1 (.bool (sg p)) rfl (by kernel_rfl) (by kernel_rfl) (fun _ _ _ h => h) S3 (by rfl) (fun u hu => by go_simp) ?_
      try simp only [Act.put, List.setIfInBounds_toArray, List.set_cons_zero, List.set_cons_succ]
      refine wpTill.take 2 (.pointer (some ⟨wr.heap.size, 0, none⟩)) rfl (by kernel_rfl) (by kernel_rfl) (fun _ _ _ h => h) S3 (by rfl) (fun u hu => by go_simp) ?_
      try simp only [Act.put, List.setIfInBounds_toArray, List.set_cons_zero, List.set_cons_succ]
      refine wpTill.take 3 (.bool (sg q)) rfl (by kernel_rfl) (by kernel_rfl) (fun _ _ _ h => h) S3 (by rfl) (fun u hu => by go_simp) ?_
      try simp only [Act.put, List.setIfInBounds_toArray, List.set_cons_zero, List.set_cons_succ]
      refine wpTill.take 4 (.bool (sg p != sg q)) rfl (by kernel_rfl) (by kernel_rfl) (fun _ _ _ h => h) S3 (by rfl) (fun u hu => by go_simp; cases sg p <;> cases sg q <;> rfl) ?_
      try simp only [Act.put, List.setIfInBounds_toArray, List.set_cons_zero, List.set_cons_succ]
      refine wpTill.take 5 (.pointer (some ⟨w1.heap.size, 1, none⟩)) rfl (by kernel_rfl) (by kernel_rfl) (fun _ _ _ h => h) S3 (by rfl) (fun u hu => by go_simp) ?_
      try simp only [Act.put, List.setIfInBounds_toArray, List.set_cons_zero, List.set_cons_succ]
      refine wpTill.take 6 (.slice B3 m3 k3) rfl (by kernel_rfl) (by kernel_rfl) (fun _ _ _ h => h) S3 (by rfl) (fun u hu => by go_simp) ?_
      try simp only [Act.put, List.setIfInBounds_toArray, List.set_cons_zero, List.set_cons_succ]
      refine wpTill.take 7 (.pointer (some ⟨wr.heap.size, 1, none⟩)) rfl (by kernel_rfl) (by kernel_rfl) (fun _ _ _ h => h) S3 (by rfl) (fun u hu => by go_simp) ?_
      try simp only [Act.put, List.setIfInBounds_toArray, List.set_cons_zero, List.set_cons_succ]
      refine wpTill.take 8 (.slice C1 a1 d1) rfl (by kernel_rfl) (by kernel_rfl) (fun _ _ _ h => h) S3 (by rfl) (fun u hu => by go_simp) ?_
      try simp only [Act.put, List.setIfInBounds_toArray, List.set_cons_zero, List.set_cons_succ]
      refine wpTill.take 10 (.pointer (some ⟨w1.heap.size, 2, none⟩)) rfl (by kernel_rfl) (by kernel_rfl) (fun _ _ _ h => h) S3 (by rfl) (fun u hu => by go_simp) ?_
      try simp only [Act.put, List.setIfInBounds_toArray, List.set_cons_zero, List.set_cons_succ]
      refine wpTill.take 11 (.slice B4 m4 k4) rfl (by kernel_rfl) (by kernel_rfl) (fun _ _ _ h => h) S3 (by rfl) (fun u hu => by go_simp) ?_
      try simp only [Act.put, List.setIfInBounds_toArray, List.set_cons_zero, List.set_cons_succ]
      refine wpTill.take 12 (.pointer (some ⟨wr.heap.size, 2, none⟩)) rfl (by kernel_rfl) (by kernel_rfl) (fun _ _ _ h => h) S3 (by rfl) (fun u hu => by go_simp) ?_
      try simp only [Act.put, List.setIfInBounds_toArray, List.set_cons_zero, List.set_cons_succ]
      refine wpTill.take 13 (.slice C2 a2 d2) rfl (by kernel_rfl) (by kernel_rfl) (fun _ _ _ h => h) S3 (by rfl) (fun u hu => by go_simp) ?_
      try simp only [Act.put, List.setIfInBounds_toArray, List.set_cons_zero, List.set_cons_succ]
      refine wpTill.next 9 rfl (by kernel_rfl) (by rfl) (fun K hK => ?_)
      go_simp
      refine (mul_n _ (.slice B3 m3 k3) (.slice C1 a1 d1) _ _ (X + 2 * L) L (hX2 ▸ hp3.num.num) hq3.num.num (by omega)).mono ?_
      rintro e w4 ⟨v1, rfl, h4, hf4⟩; obtain ⟨C3, a3, d3, rfl⟩ := h4.form; have ho4 := ho3.keep hf4; have h54 := h53.keep hf4; have S4 : w4.cell? ⟨w1.heap.size, 0, none⟩ = some (.bool (sg p)) ∧ w4.cell? ⟨w1.heap.size, 1, none⟩ = some (.slice B3 m3 k3) ∧ w4.cell? ⟨w1.heap.size, 2, none⟩ = some (.slice B4 m4 k4) ∧ w4.cell? ⟨wr.heap.size, 0, none⟩ = some (.bool (sg q)) ∧ w4.cell? ⟨wr.heap.size, 1, none⟩ = some (.slice C1 a1 d1) ∧ w4.cell? ⟨wr.heap.size, 2, none⟩ = some (.slice C2 a2 d2) := ⟨ho4.c0, ho4.c1, ho4.c2, h54.c0, h54.c1, h54.c2⟩
      refine hK _ _ (fun _ => S4) ?_
      clear hK K
      try simp only [Act.put, List.setIfInBounds_toArray, List.set_cons_zero, List.set_cons_succ]
      refine wpTill.next 14 rfl (by kernel_rfl) (by rfl) (fun K hK => ?_)
      go_simp
      refine (mul_n _ (.slice B4 m4 k4) (.slice C2 a2 d2) _ _ (X + 2 * L) L (hX2 ▸ (hp3.den.keep hf4).num) (hq3.den.keep hf4).num (by omega)).mono ?_
      rintro e w5 ⟨v1, rfl, h5', hf5⟩; obtain ⟨C4, a4, d4, rfl⟩ := h5'.form; have ho5 := ho4.keep hf5; have h55 := h54.keep hf5; have S5 : w5.cell? ⟨w1.heap.size, 0, none⟩ = some (.bool (sg p)) ∧ w5.cell? ⟨w1.heap.size, 1, none⟩ = some (.slice B3 m3 k3) ∧ w5.cell? ⟨w1.heap.size, 2, none⟩ = some (.slice B4 m4 k4) ∧ w5.cell? ⟨wr.heap.size, 0, none⟩ = some (.bool (sg q)) ∧ w5.cell? ⟨wr.heap.size, 1, none⟩ = some (.slice C1 a1 d1) ∧ w5.cell? ⟨wr.heap.size, 2, none⟩ = some (.slice C2 a2 d2) := ⟨ho5.c0, ho5.c1, ho5.c2, h55.c0, h55.c1, h55.c2⟩
      refine hK _ _ (fun _ => S5) ?_
      clear hK K
      try simp only [Act.put, List.setIfInBounds_toArray, List.set_cons_zero, List.set_cons_succ]
      have hpq : rv (sg p != sg q) (p.num.natAbs * q.num.natAbs) (p.den * q.den) = p * q := by rw [rv_mul, rv_self, rv_self]
      have HPQ := Lib.hid (hpq.trans (HP.out.2.2))
      have hdp : 0 < p.den * q.den := Nat.mul_pos p.den_pos q.den_pos
      clear hpq
      refine wpTill.next 15 rfl (by kernel_rfl) (by rfl) (fun K hK => ?_)
      go_simp
      refine (make_q _ (sg p != sg q) (.slice C3 a3 d3) (.slice C4 a4 d4) _ _ (X + 4 * L) p' HPQ ((h4.keep hf5).num.wide (by omega)) (h5'.num.wide (by omega)) hdp (by omega) (by omega)).mono ?_
      rintro e w6 ⟨v1, v2, rfl, h6, hf6⟩; obtain ⟨⟨C5, a5, d5, rfl⟩, ⟨C6, a6, d6, rfl⟩⟩ := h6.form; have ho6 := ho5.keep hf6; have h56 := h55.keep hf6; have S6 : w6.cell? ⟨w1.heap.size, 0, none⟩ = some (.bool (sg p)) ∧ w6.cell? ⟨w1.heap.size, 1, none⟩ = some (.slice B3 m3 k3) ∧ w6.cell? ⟨w1.heap.size, 2, none⟩ = some (.slice B4 m4 k4) ∧ w6.cell? ⟨wr.heap.size, 0, none⟩ = some (.bool (sg q)) ∧ w6.cell? ⟨wr.heap.size, 1, none⟩ = some (.slice C1 a1 d1) ∧ w6.cell? ⟨wr.heap.size, 2, none⟩ = some (.slice C2 a2 d2) := ⟨ho6.c0, ho6.c1, ho6.c2, h56.c0, h56.c1, h56.c2⟩; have f0 := ho6.free 0; have f1 := ho6.free 1; have f2 := ho6.free 2; have o0 := ho6.c0; have o1 := ho6.c1; have o2 := ho6.c2
      refine hK _ _ (fun _ => S6) ?_
      clear hK K
      try simp only [Act.put, List.setIfInBounds_toArray, List.set_cons_zero, List.set_cons_succ]
      refine wpTill.take 16 (.tuple #[.agg #[.bool (sg p'), .slice C5 a5 d5, .slice C6 a6 d6], .int .i64 0]) rfl (by kernel_rfl) (by kernel_rfl) (fun _ _ _ h => h) S6 (by rfl) (fun u hu => by go_simp) ?_
      try simp only [Act.put, List.setIfInBounds_toArray, List.set_cons_zero, List.set_cons_succ]
      refine wpTill.take 17 (.agg #[.bool (sg p'), .slice C5 a5 d5, .slice C6 a6 d6]) rfl (by kernel_rfl) (by kernel_rfl) (fun _ _ _ h => h) S6 (by rfl) (fun u hu => by go_simp) ?_
      try simp only [Act.put, List.setIfInBounds_toArray, List.set_cons_zero, List.set_cons_succ]
      have B7 := ho6.set3 (.bool (sg p')) (.slice C5 a5 d5) (.slice C6 a6 d6)
      have F7 := fr_set3 w6 w1.heap.size (.bool (sg p')) (.slice C5 a5 d5) (.slice C6 a6 d6)
      have hb7 := (((hb3.keep hf4).keep hf5).keep hf6).fr F7 (by omega)
      have s4 := hf4.size
      have s5 := hf5.size
      have s3 := F3.size
      have F8 := (fr_then (fr_then (fr_then F3 hf4) hf5) hf6).comp F7 (R := fun k => k < w.heap.size) fun k hk h => ⟨h, by omega⟩
      have h7 := (h6.out F7 (b := w1.heap.size + 1) (fun k hk => by have := h56.lt; have := h53.lt; omega) (by have := h53.lt; omega)).mono (T := fun k => w.heap.size + 1 ≤ k ∧ k ≠ w1.heap.size) fun k hk => by omega
      refine wpTill.either 18 19 rfl rfl (by kernel_rfl) (by rfl) (by rfl) (fun K hK => ?_) (fun K hK => ?_)
      · go_simp
        refine hK _ _ (fun _ => S6) ?_
        clear hK K
        try simp only [Act.put, List.setIfInBounds_toArray, List.set_cons_zero, List.set_cons_succ]
        refine wpTill.next 19 rfl (by kernel_rfl) (by rfl) (fun K hK => ?_)
        go_simp
        refine hK _ _ (no_wait (by kernel_rfl)) ?_
        clear hK K
        try simp only [Act.put, List.setIfInBounds_toArray, List.set_cons_zero, List.set_cons_succ]
        refine wpTill.done (by kernel_rfl) ?_
        go_wp2_with fail
        go_roundw
        case rel => exact ⟨n + 1, _, _, by go_num, by omega, hb7, by rw [← HP.out.2.1]; exact B7, by rw [← HP.out.2.1, hX3]; exact h7, F8⟩
        case measure => first | (simp [intOf]; done) | (simp [intOf]; omega)
      · go_simp
        refine hK _ _ (no_wait (by kernel_rfl)) ?_
        clear hK K
        try simp only [Act.put, List.setIfInBounds_toArray, List.set_cons_zero, List.set_cons_succ]
        refine wpTill.next 18 rfl (by kernel_rfl) (by rfl) (fun K hK => ?_)
        go_simp
        refine hK _ _ (no_wait (by kernel_rfl)) ?_
        clear hK K
        try simp only [Act.put, List.setIfInBounds_toArray, List.set_cons_zero, List.set_cons_succ]
        refine wpTill.done (by kernel_rfl) ?_
        go_wp2_with fail
        go_roundw
        case rel => exact ⟨n + 1, _, _, by go_num, by omega, hb7, by rw [← HP.out.2.1]; exact B7, by rw [← HP.out.2.1, hX3]; exact h7, F8⟩
        case measure => first | (simp [intOf]; done) | (simp [intOf]; omega)
    · obtain rfl : n = 2 := by omega
      have o0 := ho.c0; have o1 := ho.c1; have o2 := ho.c2
      go_wp2_with ((with_reducible apply wpList_st3); rfl; rfl; exact hb; exact rat3; rfl; rfl; rfl; intro w9 B9 F9)
      refine bodyPost_ret (results_cell3 rfl rfl B9 Tryz.underlying54 rat3) rfl ?_
      exact ⟨_, _, rfl, ((hv.mono (T := fun k => w.heap.size + 1 ≤ k) fun k hk => hk.1).out F9 (fun k hk => by omega) (by omega)).wide (by omega), F.comp F9 fun k hk h => ⟨h, by omega⟩⟩

set_option maxHeartbeats 1000000 in
theorem rmul_n {S T : Nat → Prop} (w : World) (s t : Bool) (vn vd un ud : Value) (x y : Rat) (N D M E L : Nat) (hx : RI S w s vn vd x N D L) (hy : RI T w t un ud y M E L) (hL1 : 1 ≤ L) (hl : L ≤ 104857600) :
    Calls Tryz.prog 63 #[.agg #[.bool s, vn, vd], .agg #[.bool t, un, ud]] w fun e w' => ∃ v1 v2, e = .returned (.agg #[.bool (sg (x * y)), v1, v2]) ∧ RV (fun k => w.heap.size ≤ k) w' v1 v2 (x * y) (6 * L) ∧ Fr (fun k => k < w.heap.size) w w' := by
  obtain ⟨⟨A1, n1, c1, rfl⟩, ⟨A2, n2, c2, rfl⟩⟩ := hx.form
  obtain ⟨⟨A3, n3, c3, rfl⟩, ⟨A4, n4, c4, rfl⟩⟩ := hy.form
  have F := (((Fr.refl (fun k => k < w.heap.size) w).alloc (.cells #[.bool s, .slice A1 n1 c1, .slice A2 n2 c2] 54)).alloc (.cells #[.bool t, .slice A3 n3 c3, .slice A4 n4 c4] 54)).alloc (.cells #[.bool false, .slice none 0 0, .slice none 0 0] 54)
  have hb := box_nz ((w.alloc (.cells #[.bool s, .slice A1 n1 c1, .slice A2 n2 c2] 54)).alloc (.cells #[.bool t, .slice A3 n3 c3, .slice A4 n4 c4] 54))
  generalize hW : (((w.alloc (.cells #[.bool s, .slice A1 n1 c1, .slice A2 n2 c2] 54)).alloc (.cells #[.bool t, .slice A3 n3 c3, .slice A4 n4 c4] 54)).alloc (.cells #[.bool false, .slice none 0 0, .slice none 0 0] 54)) = W at F hb
  have hWs : W.heap.size = w.heap.size + 1 + 1 + 1 := by rw [← hW]; simp
  simp only [World.size_alloc] at hb
  have hg := heap_alloc_new W (.cells #[.bool s, .slice A1 n1 c1, .slice A2 n2 c2, .bool t, .slice A3 n3 c3, .slice A4 n4 c4] 54)
  rw [hWs] at hg
  have G := F.alloc (.cells #[.bool s, .slice A1 n1 c1, .slice A2 n2 c2, .bool t, .slice A3 n3 c3, .slice A4 n4 c4] 54)
  have p1 := product_n _ _ _ _ _ _ _ _ _ _ _ _ _ _ L (hx.keep G) (hy.keep G) hg hL1 hl
  replace hb := hb.alloc (.cells #[.bool s, .slice A1 n1 c1, .slice A2 n2 c2, .bool t, .slice A3 n3 c3, .slice A4 n4 c4] 54)
  rw [← hW] at p1 hb G
  have P1 := Lib.hid p1
  clear F hW hWs hg hx hy p1
  go_enter Tryz.func63, Tryz.ntmps63
  go_wp2_with fail
  refine P1.out.mono ?_
  rintro e w1 ⟨v1, v2, rfl, h1, hf⟩
  obtain ⟨⟨B1, m1, k1, rfl⟩, ⟨B2, m2, k2, rfl⟩⟩ := h1.form
  have s1 := hf.size
  simp only [World.size_alloc] at h1 s1
  replace hb := hb.keep hf
  replace F := fr_then G hf
  clear hf P1 G
  go_wp2_with ((with_reducible apply wpList_st3); rfl; rfl; exact hb; exact rat3; rfl; rfl; rfl; intro w9 B9 F9)
  refine bodyPost_ret (results_cell3 rfl rfl B9 Tryz.underlying54 rat3) rfl ?_
  exact ⟨_, _, rfl, h1.out F9 (fun k hk => by omega) (by omega), F.comp F9 fun k hk h => ⟨h, by omega⟩⟩

end Go.Proofs.YtlppcfeimpcbjaaGreat


/- rat.Add, Sub, Sign, Cmp, Bits, Frac. -/
namespace Go.Proofs.YtlppcfeimpcbjaaGreat
open Go.RowKit

set_option maxHeartbeats 1000000 in
theorem radd_n {S T : Nat → Prop} (w : World) (s t : Bool) (vn vd un ud : Value) (x y : Rat) (N D M E L : Nat) (hx : RI S w s vn vd x N D L) (hy : RI T w t un ud y M E L) (hL1 : 1 ≤ L) (hl : L ≤ 104857600) :
    Calls Tryz.prog 47 #[.agg #[.bool s, vn, vd], .agg #[.bool t, un, ud]] w fun e w' => ∃ v1 v2, e = .returned (.agg #[.bool (sg (x + y)), v1, v2]) ∧ RV (fun k => w.heap.size ≤ k) w' v1 v2 (x + y) (5 * L) ∧ Fr (fun k => k < w.heap.size) w w' := by
  obtain ⟨⟨A1, n1, c1, rfl⟩, ⟨A2, n2, c2, rfl⟩⟩ := hx.form
  obtain ⟨⟨A3, n3, c3, rfl⟩, ⟨A4, n4, c4, rfl⟩⟩ := hy.form
  have F := (((Fr.refl (fun k => k < w.heap.size) w).alloc (.cells #[.bool s, .slice A1 n1 c1, .slice A2 n2 c2] 54)).alloc (.cells #[.bool t, .slice A3 n3 c3, .slice A4 n4 c4] 54)).alloc (.cells #[.bool false, .slice none 0 0, .slice none 0 0] 54)
  have hb := box_nz ((w.alloc (.cells #[.bool s, .slice A1 n1 c1, .slice A2 n2 c2] 54)).alloc (.cells #[.bool t, .slice A3 n3 c3, .slice A4 n4 c4] 54))
  simp only [World.size_alloc] at hb
  have p1 := sum_n _ false _ _ _ _ _ _ x y y N D M E L rfl (hx.keep F) (hy.keep F) hL1 hl
  have P1 := Lib.hid p1
  clear p1
  go_enter Tryz.func47, Tryz.ntmps47
  go_wp2_with fail
  refine P1.out.mono ?_
  rintro e w1 ⟨v1, v2, rfl, h1, hf⟩
  obtain ⟨⟨B1, m1, k1, rfl⟩, ⟨B2, m2, k2, rfl⟩⟩ := h1.form
  have s1 := hf.size
  simp only [World.size_alloc] at h1 s1
  replace hb := hb.keep hf
  replace F := fr_then F hf
  clear hf P1 hx hy
  go_wp2_with ((with_reducible apply wpList_st3); rfl; rfl; exact hb; exact rat3; rfl; rfl; rfl; intro w9 B9 F9)
  refine bodyPost_ret (results_cell3 rfl rfl B9 Tryz.underlying54 rat3) rfl ?_
  exact ⟨_, _, rfl, h1.out F9 (fun k hk => by omega) (by omega), F.comp F9 fun k hk h => ⟨h, by omega⟩⟩

end Go.Proofs.YtlppcfeimpcbjaaGreat
