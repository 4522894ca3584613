
/- Plain numbers: the digits of a number in a base, what digits come to. No program in sight. -/
namespace Go.Proofs.Ytodpbkcdcchljaa

/-- What digits come to, the lowest first. -/
def ofB (b : Nat) : List Nat → Nat
  | [] => 0
  | d :: l => d + b * ofB b l

/-- A number's digits, the lowest first, the last one not 0. -/
def dg (b n : Nat) : List Nat :=
  if _h : n = 0 ∨ b < 2 then [] else n % b :: dg b (n / b)
termination_by n
decreasing_by exact Nat.div_lt_self (by omega) (by omega)

theorem dg_zero (b : Nat) : dg b 0 = [] := by unfold dg; simp
theorem dg_pos {b n : Nat} (hb : 2 ≤ b) (hn : 0 < n) : dg b n = n % b :: dg b (n / b) := by
  rw [dg]; rw [dif_neg (by omega)]
theorem dg_cons {b d n : Nat} (hb : 2 ≤ b) (hd : d < b) (hn : 0 < d + b * n) : dg b (d + b * n) = d :: dg b n := by
  rw [dg_pos hb hn, Nat.add_mul_mod_self_left, Nat.mod_eq_of_lt hd, Nat.add_mul_div_left _ _ (by omega), Nat.div_eq_of_lt hd, Nat.zero_add]

theorem ofB_dg {b : Nat} (hb : 2 ≤ b) (n : Nat) : ofB b (dg b n) = n := by
  induction n using Nat.strongRecOn with
  | _ n ih =>
    rcases Nat.eq_zero_or_pos n with rfl | hn
    · simp [dg_zero, ofB]
    · rw [dg_pos hb hn, ofB, ih _ (Nat.div_lt_self hn (by omega))]
      exact Nat.mod_add_div n b
theorem dg_lt {b : Nat} (hb : 2 ≤ b) (n : Nat) : ∀ d ∈ dg b n, d < b := by
  induction n using Nat.strongRecOn with
  | _ n ih =>
    intro d hd
    rcases Nat.eq_zero_or_pos n with rfl | hn
    · simp [dg_zero] at hd
    · rw [dg_pos hb hn] at hd
      rcases List.mem_cons.1 hd with rfl | hd
      · exact Nat.mod_lt _ (by omega)
      · exact ih _ (Nat.div_lt_self hn (by omega)) d hd
theorem ofB_append (b : Nat) (l m : List Nat) : ofB b (l ++ m) = ofB b l + b ^ l.length * ofB b m := by
  induction l with
  | nil => simp [ofB]
  | cons d l ih => simp only [List.cons_append, ofB, ih, List.length_cons, Nat.pow_succ, Nat.mul_add, Nat.add_assoc]; congr 2; rw [← Nat.mul_assoc, Nat.mul_comm b]
theorem ofB_snoc (b : Nat) (l : List Nat) (d : Nat) : ofB b (l ++ [d]) = ofB b l + b ^ l.length * d := by rw [ofB_append]; simp [ofB]
theorem ofB_lt {b : Nat} {l : List Nat} (h : ∀ d ∈ l, d < b) : ofB b l < b ^ l.length := by
  induction l with
  | nil => simp [ofB]
  | cons d l ih =>
    have h1 := ih fun x hx => h x (List.mem_cons_of_mem _ hx)
    have h2 := h d (List.mem_cons_self ..)
    simp only [ofB, List.length_cons, Nat.pow_succ]
    have h3 : b * (ofB b l + 1) ≤ b * b ^ l.length := Nat.mul_le_mul_left b h1
    rw [Nat.mul_add] at h3
    rw [Nat.mul_comm (b ^ l.length)]
    omega
theorem ofB_replicate (b n : Nat) : ofB b (List.replicate n 0) = 0 := by
  induction n with
  | zero => rfl
  | succ n ih => simp [List.replicate_succ, ofB, ih]
theorem ofB_pos {b : Nat} (hb : 0 < b) {l : List Nat} {j d : Nat} (h : l[j]? = some d) (hd : 0 < d) : 0 < ofB b l := by
  induction l generalizing j with
  | nil => simp at h
  | cons x l ih =>
    cases j with
    | zero => simp at h; subst h; simp only [ofB]; omega
    | succ j =>
      have := ih (j := j) (by simpa using h)
      simp only [ofB]
      have := Nat.mul_pos hb this
      omega

/-- Digits, the last one not 0, are those of what they come to. -/
theorem dg_ofB {b : Nat} (hb : 2 ≤ b) {l : List Nat} (h : ∀ d ∈ l, d < b) (hl : ∀ d, l.getLast? = some d → d ≠ 0) : dg b (ofB b l) = l := by
  induction l with
  | nil => simp [ofB, dg_zero]
  | cons d l ih =>
    have hd := h d (List.mem_cons_self ..)
    have hpos : 0 < d + b * ofB b l := by
      have hlast := hl ((d :: l).getLast (by simp)) (List.getLast?_eq_some_getLast (by simp))
      have : 0 < ofB b (d :: l) := by
        refine ofB_pos (by omega) (j := l.length) (d := (d :: l).getLast (by simp)) ?_ (by omega)
        rw [List.getLast_eq_getElem]; simp
      exact this
    rw [ofB, dg_cons hb hd hpos]
    cases l with
    | nil => simp [ofB, dg_zero]
    | cons e l => rw [ih (fun x hx => h x (List.mem_cons_of_mem _ hx)) (fun x hx => hl x (by simpa using hx))]

theorem dg_last {b : Nat} (hb : 2 ≤ b) (n : Nat) : ∀ d, (dg b n).getLast? = some d → d ≠ 0 := by
  induction n using Nat.strongRecOn with
  | _ n ih =>
    intro d hd
    rcases Nat.eq_zero_or_pos n with rfl | hn
    · simp [dg_zero] at hd
    · rw [dg_pos hb hn] at hd
      rcases Nat.eq_zero_or_pos (n / b) with h0 | h1
      · rw [h0, dg_zero] at hd
        simp at hd
        have := Nat.mod_add_div n b
        rw [h0] at this
        omega
      · rw [dg_pos hb h1] at hd
        rw [List.getLast?_cons_cons] at hd
        rw [← dg_pos hb h1] at hd
        exact ih _ (Nat.div_lt_self hn (by omega)) d hd
theorem dg_len_le {b : Nat} (hb : 2 ≤ b) {n k : Nat} (h : n < b ^ k) : (dg b n).length ≤ k := by
  induction k generalizing n with
  | zero => simp at h; subst h; simp [dg_zero]
  | succ k ih =>
    rcases Nat.eq_zero_or_pos n with rfl | hn
    · simp [dg_zero]
    · rw [dg_pos hb hn, List.length_cons]
      have := ih (n := n / b) (Nat.div_lt_of_lt_mul (by rwa [Nat.pow_succ, Nat.mul_comm] at h))
      omega
theorem lt_pow_dg {b : Nat} (hb : 2 ≤ b) (n : Nat) : n < b ^ (dg b n).length := by
  have := ofB_lt (dg_lt hb n); rwa [ofB_dg hb] at this
theorem dg_eq_nil {b : Nat} (hb : 2 ≤ b) {n : Nat} : dg b n = [] ↔ n = 0 := by
  constructor
  · intro h; have := ofB_dg hb n; rw [h] at this; simpa [ofB] using this.symm
  · rintro rfl; exact dg_zero b
theorem dg_len_pos {b : Nat} (hb : 2 ≤ b) {n : Nat} : 0 < (dg b n).length ↔ 0 < n := by
  have := dg_eq_nil hb (n := n)
  cases h : dg b n with
  | nil => rw [h] at this; simp at this; simp [this]
  | cons x l => rw [h] at this; simp at this; simp; omega
theorem dg_inj {b : Nat} (hb : 2 ≤ b) {m n : Nat} (h : dg b m = dg b n) : m = n := by rw [← ofB_dg hb m, h, ofB_dg hb]
/-- The power below a number with k + 1 digits. -/
theorem pow_le_of_dg {b : Nat} (hb : 2 ≤ b) {n k : Nat} (h : k < (dg b n).length) : b ^ k ≤ n := by
  rcases Nat.lt_or_ge n (b ^ k) with hlt | hge
  · have := dg_len_le hb hlt; omega
  · exact hge

/-- How many digits are left without noughts at the end, and which. -/
theorem dg_top {b : Nat} (hb : 2 ≤ b) {l : List Nat} (h : ∀ d ∈ l, d < b) {n : Nat} (hn : n ≤ l.length) (hz : ∀ j, n ≤ j → j < l.length → l[j]? = some 0)
    (ht : 0 < n → l[n - 1]? ≠ some 0) : l.take n = dg b (ofB b l) ∧ n = (dg b (ofB b l)).length := by
  have hl : l = l.take n ++ List.replicate (l.length - n) 0 := by
    apply List.ext_getElem?
    intro i
    rcases Nat.lt_or_ge i n with hi | hi
    · rw [List.getElem?_append_left (by simp; omega), List.getElem?_take, if_pos hi]
    · rw [List.getElem?_append_right (by simp; omega), List.length_take, Nat.min_eq_left hn]
      rcases Nat.lt_or_ge i l.length with h1 | h1
      · rw [hz i hi h1, List.getElem?_replicate, if_pos (by omega)]
      · rw [List.getElem?_eq_none (by omega), List.getElem?_replicate, if_neg (by omega)]
  have e : ofB b l = ofB b (l.take n) := by
    conv => lhs; rw [hl]
    rw [ofB_append, ofB_replicate]; simp
  have hd : dg b (ofB b (l.take n)) = l.take n := by
    refine dg_ofB hb (fun d hd => h d (List.mem_of_mem_take hd)) ?_
    intro d hd
    rw [List.getLast?_eq_getElem?, List.length_take, Nat.min_eq_left hn] at hd
    rcases Nat.eq_zero_or_pos n with rfl | hp
    · simp at hd
    · rw [List.getElem?_take, if_pos (by omega)] at hd
      intro e; subst e
      exact ht hp hd
  rw [e, hd]
  exact ⟨rfl, by simp; omega⟩

theorem dg_top' {b : Nat} (hb : 2 ≤ b) {l : List Nat} (h : ∀ d ∈ l, d < b) : dg b (ofB b l) = l.take (dg b (ofB b l)).length := by
  induction l with
  | nil => simp [ofB, dg_zero]
  | cons d l ih =>
    have ih := ih fun x hx => h x (List.mem_cons_of_mem _ hx)
    have hd := h d (List.mem_cons_self ..)
    rcases Nat.eq_zero_or_pos (ofB b (d :: l)) with h0 | h0
    · rw [h0, dg_zero]; rfl
    · rw [ofB] at h0 ⊢
      rw [dg_cons hb hd h0, List.length_cons, List.take_succ_cons, ← ih]
/-- A digit of a number. -/
theorem dg_get {b : Nat} (hb : 2 ≤ b) (n i : Nat) : (dg b n).getD i 0 = n / b ^ i % b := by
  induction i generalizing n with
  | zero =>
    rcases Nat.eq_zero_or_pos n with rfl | hn
    · simp [dg_zero]
    · rw [dg_pos hb hn]; simp
  | succ i ih =>
    rcases Nat.eq_zero_or_pos n with rfl | hn
    · simp [dg_zero]
    · rw [dg_pos hb hn, List.getD_cons_succ, ih, Nat.div_div_eq_div_mul, Nat.pow_succ, Nat.mul_comm b]
/-- A digit of what digits come to. -/
theorem ofB_get {b : Nat} (hb : 0 < b) {l : List Nat} (h : ∀ d ∈ l, d < b) (i : Nat) : l.getD i 0 = ofB b l / b ^ i % b := by
  induction l generalizing i with
  | nil => simp [ofB]
  | cons d l ih =>
    have hd := h d (List.mem_cons_self ..)
    cases i with
    | zero => simp only [List.getD_cons_zero, ofB, Nat.pow_zero, Nat.div_one, Nat.add_mul_mod_self_left]; exact (Nat.mod_eq_of_lt hd).symm
    | succ i =>
      rw [List.getD_cons_succ, ih (fun x hx => h x (List.mem_cons_of_mem _ hx)), ofB, Nat.pow_succ, Nat.mul_comm (b ^ i), ← Nat.div_div_eq_div_mul, Nat.add_mul_div_left _ _ hb, Nat.div_eq_of_lt hd, Nat.zero_add]

/-- A sum over places. -/
def sumTo (b : Nat) (f : Nat → Nat) : Nat → Nat
  | 0 => 0
  | n + 1 => sumTo b f n + b ^ n * f n
theorem sumTo_add (b : Nat) (f g : Nat → Nat) (n : Nat) : sumTo b (fun i => f i + g i) n = sumTo b f n + sumTo b g n := by
  induction n with
  | zero => rfl
  | succ n ih => simp only [sumTo, ih, Nat.mul_add]; omega
theorem sumTo_congr {b : Nat} {f g : Nat → Nat} {n : Nat} (h : ∀ i, i < n → f i = g i) : sumTo b f n = sumTo b g n := by
  induction n with
  | zero => rfl
  | succ n ih => simp only [sumTo]; rw [ih fun i hi => h i (by omega), h n (by omega)]
theorem sumTo_getD (b : Nat) (l : List Nat) (n : Nat) : sumTo b (fun i => l.getD i 0) n = ofB b (l.take n) := by
  induction n with
  | zero => simp [sumTo, ofB]
  | succ n ih =>
    rw [sumTo, ih]
    rcases Nat.lt_or_ge n l.length with h | h
    · rw [List.take_succ_eq_append_getElem h, ofB_snoc, List.length_take, Nat.min_eq_left (by omega), List.getD_eq_getElem?_getD, List.getElem?_eq_getElem h]; rfl
    · rw [List.take_of_length_le h, List.take_of_length_le (by omega), List.getD_eq_getElem?_getD, List.getElem?_eq_none h]; simp
theorem sumTo_all (b : Nat) (l : List Nat) (n : Nat) (h : l.length ≤ n) : sumTo b (fun i => l.getD i 0) n = ofB b l := by rw [sumTo_getD, List.take_of_length_le h]

/-! ### Bits -/
/-- how many bits a number has -/
def blen (n : Nat) : Nat := (dg 2 n).length
theorem blen_zero : blen 0 = 0 := by simp [blen, dg_zero]
theorem blen_of {n k : Nat} (h1 : 2 ^ k ≤ n) (h2 : n < 2 ^ (k + 1)) : blen n = k + 1 := by
  have a := dg_len_le (by omega) h2
  have b := lt_pow_dg (b := 2) (by omega) n
  unfold blen
  rcases Nat.lt_or_ge (dg 2 n).length (k + 1) with h | h
  · have : 2 ^ (dg 2 n).length ≤ 2 ^ k := Nat.pow_le_pow_right (by omega) (by omega)
    omega
  · omega
theorem blen_pos {n : Nat} (h : 0 < n) : ∃ k, blen n = k + 1 ∧ 2 ^ k ≤ n ∧ n < 2 ^ (k + 1) := by
  have h0 := (dg_len_pos (b := 2) (by omega)).2 h
  refine ⟨(dg 2 n).length - 1, by unfold blen; omega, ?_, ?_⟩
  · exact pow_le_of_dg (by omega) (by omega)
  · rw [Nat.sub_add_cancel h0]; exact lt_pow_dg (by omega) n
theorem blen_half {n : Nat} (h : 0 < n) : blen n = 1 + blen (n / 2) := by
  unfold blen; rw [dg_pos (by omega) h, List.length_cons]; omega
theorem blen_top {lo a x : Nat} (h1 : lo < 2 ^ a) (hx : 0 < x) : blen (lo + 2 ^ a * x) = a + blen x := by
  obtain ⟨k, e, h2, h3⟩ := blen_pos hx
  rw [e, ← Nat.add_assoc]
  refine blen_of ?_ ?_
  · rw [Nat.pow_add]; have := Nat.mul_le_mul_left (2 ^ a) h2; omega
  · rw [Nat.add_assoc, Nat.pow_add]
    have := Nat.mul_le_mul_left (2 ^ a) (show x + 1 ≤ 2 ^ (k + 1) from h3)
    rw [Nat.mul_add] at this
    omega
end Go.Proofs.Ytodpbkcdcchljaa
