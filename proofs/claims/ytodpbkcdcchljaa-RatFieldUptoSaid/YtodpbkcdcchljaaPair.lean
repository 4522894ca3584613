
/- A region that draws its order: a row of calls, and two new variables whose allocs may come up anywhere among them. A condition J, of how many calls and which allocs have come up, is kept by each; so each operation is stepped through once. -/
import Derived.Test.YtodpbkcdcchljaaUntil
namespace Go.Proofs.Ytodpbkcdcchljaa
open Go.RowKit

/-- What has come up, after c of the calls cs, and the allocs a1, a2 or not. -/
def pairDone (base : Array Bool) (cs : List Nat) (a1 a2 : Nat) (c : Nat) (p q : Bool) : Array Bool :=
  let d := (cs.take c).foldl (fun d i => d.setIfInBounds i true) base
  let d := if p then d.setIfInBounds a1 true else d
  if q then d.setIfInBounds a2 true else d

def pairOne (md : Region.Mode) (ops : Array Oper) (base : Array Bool) (cs : List Nat) (a1 a2 : Nat) (c : Nat) (p q : Bool) : Bool :=
  let d := pairDone base cs a1 a2 c p q
  ((c == cs.length && p && q) || !(Region.ready md ops d).isEmpty) &&
  ((c == cs.length && p && q) || (Region.ready md ops d).all fun i =>
    (c < cs.length && cs[c]? == some i && d.setIfInBounds i true == pairDone base cs a1 a2 (c + 1) p q) ||
    (!p && i == a1 && d.setIfInBounds i true == pairDone base cs a1 a2 c true q) ||
    (!q && i == a2 && d.setIfInBounds i true == pairDone base cs a1 a2 c p true))

def pairAll (md : Region.Mode) (ops : Array Oper) (base : Array Bool) (cs : List Nat) (a1 a2 : Nat) : Bool :=
  (List.range (cs.length + 1)).all fun c => pairOne md ops base cs a1 a2 c false false && pairOne md ops base cs a1 a2 c true false && pairOne md ops base cs a1 a2 c false true && pairOne md ops base cs a1 a2 c true true

theorem pairAll_one {md : Region.Mode} {ops : Array Oper} {base : Array Bool} {cs : List Nat} {a1 a2 : Nat} (h : pairAll md ops base cs a1 a2 = true) {c : Nat} (hc : c ≤ cs.length) (p q : Bool) : pairOne md ops base cs a1 a2 c p q = true := by
  have := List.all_eq_true.1 h c (List.mem_range.2 (by omega))
  simp only [Bool.and_eq_true] at this
  cases p <;> cases q
  · exact this.1.1.1
  · exact this.1.2
  · exact this.1.1.2
  · exact this.2

/-- An operation, stepped through. -/
def stepsTo (P : Program) (ops : Array Oper) (Q : Exit → Act → World → Prop) (i : Nat) (A B : Act → World → Prop) : Prop :=
  ∃ o, ops[i]? = some o ∧ o.guard = none ∧ ∀ a w (K : Act → World → Prop), A a w → (∀ b u, B b u → K b u) → o.wp P a w K Q

theorem stepsTo.wpOp {P : Program} {ops : Array Oper} {Q : Exit → Act → World → Prop} {i : Nat} {A B K : Act → World → Prop} (h : stepsTo P ops Q i A B) {a : Act} {w : World} (ha : A a w) (hk : ∀ b u, B b u → K b u) : wpOp P ops Q i K a w := by
  obtain ⟨o, ho, hg, hs⟩ := h
  unfold Go.wpOp
  have hw : Region.wanted o (yielded ops a.tmps) = true := by unfold Region.wanted; rw [hg]
  simp only [ho, hw, if_true]
  exact .inl (hs a w K ha hk)

theorem wpTill.pair {P : Program} {md : Region.Mode} {ops : Array Oper} {Q : Exit → Act → World → Prop} {S : World → Prop} {j : Nat} (cs : List Nat) (a1 a2 : Nat) {n : Nat} {base : Array Bool} (J : Nat → Bool → Bool → Act → World → Prop)
    (hc : pairAll md ops base cs a1 a2 = true)
    (hS : ∀ c p q a w, J c p q a w → S w)
    (h1 : ∀ c i, cs[c]? = some i → ∀ p q, stepsTo P ops Q i (J c p q) (J (c + 1) p q))
    (h3 : ∀ c q, stepsTo P ops Q a1 (J c false q) (J c true q))
    (h4 : ∀ c p, stepsTo P ops Q a2 (J c p false) (J c p true))
    (hf : ∀ a w, J cs.length true true a w → wpTill P md ops Q S j n (pairDone base cs a1 a2 cs.length true true) a w)
    {a : Act} {w : World} (h : J 0 false false a w) : wpTill P md ops Q S j (n + cs.length + 2) base a w := by
  have main : ∀ (m c : Nat) (p q : Bool) (a : Act) (w : World), c ≤ cs.length → (cs.length - c) + (if p then 0 else 1) + (if q then 0 else 1) = m → J c p q a w → wpTill P md ops Q S j (n + m) (pairDone base cs a1 a2 c p q) a w := by
    intro m
    induction m with
    | zero =>
      intro c p q a w hcl hm hJ
      cases p <;> cases q <;> simp at hm
      obtain rfl : c = cs.length := by omega
      exact hf a w hJ
    | succ m ih =>
      intro c p q a w hcl hm hJ
      have h0 := pairAll_one hc hcl p q
      simp only [pairOne, Bool.and_eq_true, Bool.or_eq_true] at h0
      obtain ⟨e1, e2⟩ := h0
      have hne : ¬ ((c == cs.length) = true ∧ p = true ∧ q = true) := by
        rintro ⟨h1, h2, h3⟩
        have := eq_of_beq h1
        subst h2 h3
        simp at hm
        omega
      have e1' := e1.resolve_left (fun h => hne ⟨h.1.1, h.1.2, h.2⟩)
      have e2' := e2.resolve_left (fun h => hne ⟨h.1.1, h.1.2, h.2⟩)
      refine ⟨fun hr => ?_, fun k hk => ?_⟩
      · rw [hr] at e1'
        simp at e1'
      · have hk' := List.all_eq_true.1 e2' k hk
        simp only [Bool.or_eq_true, Bool.and_eq_true, Bool.not_eq_true', decide_eq_true_eq] at hk'
        rcases hk' with (⟨⟨hlt, hk1⟩, hd⟩ | ⟨⟨hp, hk1⟩, hd⟩) | ⟨⟨hq, hk1⟩, hd⟩
        · have hk2 := eq_of_beq hk1
          refine (h1 c k hk2 p q).wpOp hJ fun b u hb => ⟨fun _ => hS _ _ _ _ _ hb, ?_⟩
          rw [eq_of_beq hd]
          exact ih (c + 1) p q b u hlt (by omega) hb
        · obtain rfl := eq_of_beq hk1
          subst hp
          refine (h3 c q).wpOp hJ fun b u hb => ⟨fun _ => hS _ _ _ _ _ hb, ?_⟩
          rw [eq_of_beq hd]
          exact ih c true q b u hcl (by simp at hm ⊢; omega) hb
        · obtain rfl := eq_of_beq hk1
          subst hq
          refine (h4 c p).wpOp hJ fun b u hb => ⟨fun _ => hS _ _ _ _ _ hb, ?_⟩
          rw [eq_of_beq hd]
          exact ih c p true b u hcl (by cases p <;> simp at hm ⊢ <;> omega) hb
  have := main (cs.length + 2) 0 false false a w (Nat.zero_le _) (by simp) h
  rwa [show n + (cs.length + 2) = n + cs.length + 2 from by omega, show pairDone base cs a1 a2 0 false false = base from rfl] at this

/-- The same with one alloc, which may come up after the last call, too. -/
def soloDone (base : Array Bool) (cs : List Nat) (a1 : Nat) (c : Nat) (p : Bool) : Array Bool :=
  let d := (cs.take c).foldl (fun d i => d.setIfInBounds i true) base
  if p then d.setIfInBounds a1 true else d

def soloOne (md : Region.Mode) (ops : Array Oper) (base : Array Bool) (cs : List Nat) (a1 : Nat) (c : Nat) (p : Bool) : Bool :=
  let d := soloDone base cs a1 c p
  !(Region.ready md ops d).isEmpty &&
  (Region.ready md ops d).all fun i =>
    (cs[c]? == some i && d.setIfInBounds i true == soloDone base cs a1 (c + 1) p) ||
    (!p && i == a1 && d.setIfInBounds i true == soloDone base cs a1 c true)

def soloAll (md : Region.Mode) (ops : Array Oper) (base : Array Bool) (cs : List Nat) (a1 : Nat) : Bool :=
  (List.range cs.length).all fun c => soloOne md ops base cs a1 c false && soloOne md ops base cs a1 c true

theorem soloAll_one {md : Region.Mode} {ops : Array Oper} {base : Array Bool} {cs : List Nat} {a1 : Nat} (h : soloAll md ops base cs a1 = true) {c : Nat} (hc : c < cs.length) (p : Bool) : soloOne md ops base cs a1 c p = true := by
  have := List.all_eq_true.1 h c (List.mem_range.2 (by omega))
  simp only [Bool.and_eq_true] at this
  cases p
  · exact this.1
  · exact this.2

theorem wpTill.solo {P : Program} {md : Region.Mode} {ops : Array Oper} {Q : Exit → Act → World → Prop} {S : World → Prop} {j : Nat} (cs : List Nat) (a1 : Nat) {n : Nat} {base : Array Bool} (J : Nat → Bool → Act → World → Prop)
    (hc : soloAll md ops base cs a1 = true)
    (hS : ∀ c p a w, J c p a w → S w)
    (h1 : ∀ c i, cs[c]? = some i → ∀ p, stepsTo P ops Q i (J c p) (J (c + 1) p))
    (h3 : ∀ c, stepsTo P ops Q a1 (J c false) (J c true))
    (hf : ∀ a w, J cs.length true a w → wpTill P md ops Q S j n (soloDone base cs a1 cs.length true) a w)
    (hg : ∀ a w, J cs.length false a w → wpTill P md ops Q S j (n + 1) (soloDone base cs a1 cs.length false) a w)
    {a : Act} {w : World} (h : J 0 false a w) : wpTill P md ops Q S j (n + cs.length + 1) base a w := by
  have main : ∀ (m c : Nat) (p : Bool) (a : Act) (w : World), c ≤ cs.length → (cs.length - c) + (if p then 0 else 1) = m → J c p a w → wpTill P md ops Q S j (n + m) (soloDone base cs a1 c p) a w := by
    intro m
    induction m with
    | zero =>
      intro c p a w hcl hm hJ
      cases p <;> simp at hm
      obtain rfl : c = cs.length := by omega
      exact hf a w hJ
    | succ m ih =>
      intro c p a w hcl hm hJ
      rcases Nat.lt_or_ge c cs.length with hlt | hge
      · have h0 := soloAll_one hc hlt p
        simp only [soloOne, Bool.and_eq_true] at h0
        obtain ⟨e1, e2⟩ := h0
        refine ⟨fun hr => ?_, fun k hk => ?_⟩
        · rw [hr] at e1
          simp at e1
        · have hk' := List.all_eq_true.1 e2 k hk
          simp only [Bool.or_eq_true, Bool.and_eq_true, Bool.not_eq_true'] at hk'
          rcases hk' with ⟨hk1, hd⟩ | ⟨⟨hp, hk1⟩, hd⟩
          · have hk2 := eq_of_beq hk1
            refine (h1 c k hk2 p).wpOp hJ fun b u hb => ⟨fun _ => hS _ _ _ _ hb, ?_⟩
            rw [eq_of_beq hd]
            exact ih (c + 1) p b u hlt (by omega) hb
          · obtain rfl := eq_of_beq hk1
            subst hp
            refine (h3 c).wpOp hJ fun b u hb => ⟨fun _ => hS _ _ _ _ hb, ?_⟩
            rw [eq_of_beq hd]
            exact ih c true b u hcl (by simp at hm ⊢; omega) hb
      · obtain rfl : c = cs.length := by omega
        cases p
        · simp at hm
          subst hm
          exact hg a w hJ
        · simp at hm
  have := main (cs.length + 1) 0 false a w (Nat.zero_le _) (by simp) h
  rwa [show n + (cs.length + 1) = n + cs.length + 1 from by omega, show soloDone base cs a1 0 false = base from rfl] at this
theorem wpTill.same {P : Program} {md : Region.Mode} {ops : Array Oper} {Q : Exit → Act → World → Prop} {S : World → Prop} {j n : Nat} {d e : Array Bool} {a : Act} {w : World} (h : d = e) (H : wpTill P md ops Q S j n e a w) : wpTill P md ops Q S j n d a w := by
  subst h
  exact H
end Go.Proofs.Ytodpbkcdcchljaa
