import Derived.Test.YtlppcfeimpcbjaaGreatTenJM
set_option linter.unusedSimpArgs false
set_option linter.unusedVariables false

/- Indexes of a shape, in order: the plain law. -/
namespace Go.Proofs.YtlppcfeimpcbjaaGreat

def inL : List Int → List Int → Prop
  | [], [] => True
  | d :: s, x :: l => 0 ≤ x ∧ x < d ∧ inL s l
  | _, _ => False
def ofsL : List Int → List Int → Int
  | _ :: s, x :: l => x * pr s + ofsL s l
  | _, _ => 0
def nextL : List Int → List Int → List Int × Bool
  | d :: s, x :: l => if (nextL s l).2 = true then (x :: (nextL s l).1, true) else if x + 1 < d then ((x + 1) :: (nextL s l).1, true) else (0 :: (nextL s l).1, false)
  | _, _ => ([], false)
theorem inL_len : ∀ {s l : List Int}, inL s l → l.length = s.length
  | [], [], _ => rfl
  | _ :: s, _ :: l, h => by rw [List.length_cons, List.length_cons, inL_len h.2.2]
  | [], _ :: _, h => h.elim
  | _ :: _, [], h => h.elim
theorem inL_pos : ∀ {s l : List Int}, inL s l → 0 < pr s
  | [], [], _ => by decide
  | d :: s, x :: l, h => by
    have h1 := inL_pos h.2.2
    exact Int.mul_pos (by have := h.1; have := h.2.1; omega) h1
  | [], _ :: _, h => h.elim
  | _ :: _, [], h => h.elim
theorem ofsL_lt : ∀ {s l : List Int}, inL s l → 0 ≤ ofsL s l ∧ ofsL s l < pr s
  | [], [], _ => by decide
  | d :: s, x :: l, h => by
    obtain ⟨a, b⟩ := ofsL_lt h.2.2
    have hp := inL_pos h.2.2
    obtain ⟨h1, h2, _⟩ := h
    have e1 : 0 ≤ x * pr s := Int.mul_nonneg h1 (by omega)
    have e2 : (x + 1) * pr s ≤ d * pr s := Int.mul_le_mul_of_nonneg_right (by omega) (by omega)
    rw [Int.add_mul, Int.one_mul] at e2
    simp only [ofsL, pr]
    omega
  | [], _ :: _, h => h.elim
  | _ :: _, [], h => h.elim
theorem ofsL_inj : ∀ {s l m : List Int}, inL s l → inL s m → ofsL s l = ofsL s m → l = m
  | [], [], [], _, _, _ => rfl
  | d :: s, x :: l, y :: m, h, g, e => by
    obtain ⟨a, b⟩ := ofsL_lt h.2.2
    obtain ⟨a', b'⟩ := ofsL_lt g.2.2
    simp only [ofsL] at e
    have hxy : x = y := by
      rcases Int.lt_trichotomy x y with hlt | he | hgt
      · have e2 : (x + 1) * pr s ≤ y * pr s := Int.mul_le_mul_of_nonneg_right (by omega) (by omega)
        rw [Int.add_mul, Int.one_mul] at e2
        omega
      · exact he
      · have e2 : (y + 1) * pr s ≤ x * pr s := Int.mul_le_mul_of_nonneg_right (by omega) (by omega)
        rw [Int.add_mul, Int.one_mul] at e2
        omega
    subst hxy
    rw [ofsL_inj h.2.2 g.2.2 (by omega)]
  | [], _ :: _, _, h, _, _ => h.elim
  | [], [], _ :: _, _, g, _ => g.elim
  | _ :: _, [], _, h, _, _ => h.elim
  | _ :: _, _ :: _, [], _, g, _ => g.elim
/-- The last index is followed by noughts alone. -/
theorem next_no : ∀ {s l : List Int}, inL s l → (nextL s l).2 = false → ofsL s l = pr s - 1 ∧ inL s (nextL s l).1 ∧ ofsL s (nextL s l).1 = 0
  | [], [], _, _ => ⟨rfl, trivial, rfl⟩
  | d :: s, x :: l, h, e => by
    simp only [nextL] at e ⊢
    by_cases hb : (nextL s l).2 = true
    · rw [if_pos hb] at e; cases e
    · rw [if_neg hb] at e ⊢
      by_cases hx : x + 1 < d
      · rw [if_pos hx] at e; cases e
      · rw [if_neg hx]
        obtain ⟨h1, h2, h3⟩ := next_no h.2.2 (by simpa using hb)
        have hp := inL_pos h.2.2
        have hd : d = x + 1 := by have := h.2.1; omega
        subst hd
        refine ⟨?_, ⟨Int.le_refl 0, by have := h.1; omega, h2⟩, ?_⟩
        · simp only [ofsL, pr]
          rw [Int.add_mul, Int.one_mul]
          omega
        · simp only [ofsL]
          rw [h3]; omega
  | [], _ :: _, h, _ => h.elim
  | _ :: _, [], h, _ => h.elim
theorem next_yes : ∀ {s l : List Int}, inL s l → (nextL s l).2 = true → inL s (nextL s l).1 ∧ ofsL s (nextL s l).1 = ofsL s l + 1
  | [], [], _, e => by cases e
  | d :: s, x :: l, h, e => by
    simp only [nextL] at e ⊢
    by_cases hb : (nextL s l).2 = true
    · rw [if_pos hb]
      obtain ⟨h1, h2⟩ := next_yes h.2.2 hb
      exact ⟨⟨h.1, h.2.1, h1⟩, by simp only [ofsL]; rw [h2]; omega⟩
    · rw [if_neg hb] at e ⊢
      by_cases hx : x + 1 < d
      · rw [if_pos hx]
        obtain ⟨h1, h2, h3⟩ := next_no h.2.2 (by simpa using hb)
        refine ⟨⟨by have := h.1; omega, hx, h2⟩, ?_⟩
        simp only [ofsL]
        rw [h3, h1, Int.add_mul, Int.one_mul]
        omega
      · rw [if_neg hx] at e; cases e
  | [], _ :: _, h, _ => h.elim
  | _ :: _, [], h, _ => h.elim
theorem zeros_in : ∀ {s : List Int}, (∀ d ∈ s, 1 ≤ d) → inL s (List.replicate s.length 0) ∧ ofsL s (List.replicate s.length 0) = 0
  | [], _ => ⟨trivial, rfl⟩
  | d :: s, h => by
    obtain ⟨h1, h2⟩ := zeros_in fun x hx => h x (List.mem_cons_of_mem _ hx)
    have hd := h d List.mem_cons_self
    rw [List.length_cons, List.replicate_succ]
    exact ⟨⟨Int.le_refl 0, by omega, h1⟩, by simp only [ofsL]; rw [h2]; omega⟩
/-- The indexes of a shape, in order. -/
def seqI (s : List Int) : Nat → List Int
  | 0 => List.replicate s.length 0
  | k + 1 => (nextL s (seqI s k)).1
theorem seq_in {s : List Int} (h : ∀ d ∈ s, 1 ≤ d) : ∀ {k : Nat}, (k : Int) < pr s → inL s (seqI s k) ∧ ofsL s (seqI s k) = k
  | 0, _ => zeros_in h
  | k + 1, hk => by
    obtain ⟨h1, h2⟩ := seq_in h (k := k) (by omega)
    cases hb : (nextL s (seqI s k)).2 with
    | true =>
      obtain ⟨h3, h4⟩ := next_yes h1 hb
      exact ⟨h3, by rw [seqI, h4, h2]; omega⟩
    | false =>
      have := (next_no h1 hb).1
      omega
theorem seq_last {s : List Int} (h : ∀ d ∈ s, 1 ≤ d) {k : Nat} (hk : (k : Int) < pr s) : (nextL s (seqI s k)).2 = decide ((k : Int) + 1 < pr s) := by
  obtain ⟨h1, h2⟩ := seq_in h hk
  cases hb : (nextL s (seqI s k)).2 with
  | true =>
    obtain ⟨h3, h4⟩ := next_yes h1 hb
    have := (ofsL_lt h3).2
    exact (decide_eq_true (by omega)).symm
  | false =>
    have := (next_no h1 hb).1
    exact (decide_eq_false (by omega)).symm
theorem seq_of {s l : List Int} (h : ∀ d ∈ s, 1 ≤ d) (hl : inL s l) {k : Nat} (hk : (k : Int) < pr s) : seqI s k = l ↔ ofsL s l = k := by
  obtain ⟨h1, h2⟩ := seq_in h hk
  constructor
  · rintro rfl; exact h2
  · intro e; exact ofsL_inj h1 hl (h2.trans e.symm)
theorem seq_not {s l : List Int} (h : ∀ d ∈ s, 1 ≤ d) (hl : ¬ inL s l) {k : Nat} (hk : (k : Int) < pr s) : seqI s k ≠ l := by
  rintro rfl
  exact hl (seq_in h hk).1

/-- One step of the program's loop, from the end. -/
theorem next_up {s l : List Int} (hl : l.length = s.length) : ∀ (i : Nat), i ≤ s.length → (nextL (s.drop i) (l.drop i)).2 = true → nextL s l = (l.take i ++ (nextL (s.drop i) (l.drop i)).1, true) := by
  intro i
  induction i generalizing s l with
  | zero => intro _ h; rw [List.drop_zero, List.drop_zero] at h ⊢; rw [List.take_zero, List.nil_append, ← h]
  | succ i ih =>
    intro hi h
    cases s with
    | nil => simp at hi
    | cons d s =>
      cases l with
      | nil => simp at hl
      | cons x l =>
        simp only [List.drop_succ_cons] at h ⊢
        have := ih (by simpa using hl) (by simpa using hi) h
        simp only [nextL, this, if_true, List.take_succ_cons, List.cons_append]
theorem drop_cons {l : List Int} {i : Nat} (h : i < l.length) : l.drop i = l[i] :: l.drop (i + 1) := (List.drop_eq_getElem_cons h)
theorem next_here {s l : List Int} (hl : l.length = s.length) {i : Nat} (hi : i < s.length) (hb : (nextL (s.drop (i + 1)) (l.drop (i + 1))).2 = false) (hx : l[i]'(by omega) + 1 < s[i]) :
    nextL s l = (l.take i ++ (l[i]'(by omega) + 1) :: (nextL (s.drop (i + 1)) (l.drop (i + 1))).1, true) := by
  have e : nextL (s.drop i) (l.drop i) = ((l[i]'(by omega) + 1) :: (nextL (s.drop (i + 1)) (l.drop (i + 1))).1, true) := by
    rw [drop_cons hi, drop_cons (l := l) (by omega)]
    simp only [nextL, hb, Bool.false_eq_true, if_false, hx, if_true]
  rw [next_up hl i (by omega) (by rw [e]), e]
theorem next_carry {s l : List Int} (hl : l.length = s.length) {i : Nat} (hi : i < s.length) (hb : (nextL (s.drop (i + 1)) (l.drop (i + 1))).2 = false) (hx : ¬ l[i]'(by omega) + 1 < s[i]) :
    nextL (s.drop i) (l.drop i) = (0 :: (nextL (s.drop (i + 1)) (l.drop (i + 1))).1, false) := by
  rw [drop_cons hi, drop_cons (l := l) (by omega)]
  simp only [nextL, hb, Bool.false_eq_true, if_false, hx]
theorem next_len : ∀ {s l : List Int}, l.length = s.length → (nextL s l).1.length = s.length
  | [], [], _ => rfl
  | d :: s, x :: l, h => by
    have := next_len (s := s) (l := l) (by simpa using h)
    simp only [nextL]
    split
    · simp [this]
    · split <;> simp [this]
  | [], _ :: _, h => by simp at h
  | _ :: _, [], h => by simp at h

theorem inL_iff : ∀ {s l : List Int}, l.length = s.length → (inL s l ↔ inR s l)
  | [], [], _ => ⟨fun _ k hk => by simp at hk, fun _ => trivial⟩
  | d :: s, x :: l, h => by
    have ih := inL_iff (s := s) (l := l) (by simpa using h)
    simp only [inL, ih]
    constructor
    · rintro ⟨h1, h2, h3⟩ k hk
      cases k with
      | zero => simpa using ⟨h1, h2⟩
      | succ k => simpa using h3 k (by simpa using hk)
    · intro h
      have h0 := h 0 (by simp)
      refine ⟨by simpa using h0.1, by simpa using h0.2, fun k hk => ?_⟩
      simpa using h (k + 1) (by simpa using hk)
  | [], _ :: _, h => by simp at h
  | _ :: _, [], h => by simp at h
theorem ofs_from (d x : Int) (s l : List Int) : ∀ k, k ≤ s.length → ofs (d :: s) (x :: l) (k + 1) = x * pr (s.take k) + ofs s l k
  | 0, _ => by simp [ofs, pr]
  | k + 1, hk => by
    rw [ofs, ofs_from d x s l k (by omega)]
    rw [show ofs s l (k + 1) = ofs s l k * s.getD k 0 + l.getD k 0 from rfl]
    simp only [List.getD_cons_succ]
    rw [pr_take (show k < s.length by omega), getI_at (show k < s.length by omega), Int.add_mul, Int.mul_assoc]
    omega
theorem ofs_L {s l : List Int} (h : l.length = s.length) : ofs s l s.length = ofsL s l := by
  induction s generalizing l with
  | nil => cases l with
    | nil => rfl
    | cons x l => simp at h
  | cons d s ih =>
    cases l with
    | nil => simp at h
    | cons x l =>
      rw [List.length_cons, ofs_from _ _ _ _ _ (Nat.le_refl _), ih (by simpa using h), List.take_length]
      rfl
end Go.Proofs.YtlppcfeimpcbjaaGreat
