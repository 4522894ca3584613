/- The base, part A: what the elder chapters' texts prove, of the functions that this seat has. -/
import Derived.WalkKit
import Derived.KernelRfl
import Derived.RowKit3
import Derived.Below
import Derived.OneCell
import Derived.Laws.AppendOwnNone
import Derived.Deep.Draws
import Derived.Deep.LoopGhost
import Derived.Deep.QuietTactic
import Derived.BigQuiet
import Derived.Lib.Hide
import Derived.Lib.SliceRun
import Derived.Deep.RegionWith
import Derived.Deep.RegionHeld3
import Derived.StillTailTactics
import Derived.Test.YtlppcfeimpcbjaaGreatProg
import Derived.Outline
set_option linter.unusedSimpArgs false
set_option linter.unusedVariables false

/- Plain numbers: the digits of a number in a base, what digits come to. No program in sight. -/
namespace Go.Proofs.YtlppcfeimpcbjaaGreat

/-- What digits come to, the lowest first. -/
def ofB (b : Nat) : List Nat → Nat
  | [] => 0
  | d :: l => d + b * ofB b l

/-- A number's digits, the lowest first, the last one not 0. -/
def dg (b n : Nat) : List Nat :=
  if _h : n = 0 ∨ b < 2 then [] else n % b :: dg b (n / b)
termination_by n
decreasing_by exact Nat.div_lt_self (by omega) (by omega)

theorem dg_zero (b : Nat) : dg b 0 = [] := by unfold dg; simp
theorem dg_pos {b n : Nat} (hb : 2 ≤ b) (hn : 0 < n) : dg b n = n % b :: dg b (n / b) := by
  rw [dg]; rw [dif_neg (by omega)]
theorem dg_cons {b d n : Nat} (hb : 2 ≤ b) (hd : d < b) (hn : 0 < d + b * n) : dg b (d + b * n) = d :: dg b n := by
  rw [dg_pos hb hn, Nat.add_mul_mod_self_left, Nat.mod_eq_of_lt hd, Nat.add_mul_div_left _ _ (by omega), Nat.div_eq_of_lt hd, Nat.zero_add]

theorem ofB_dg {b : Nat} (hb : 2 ≤ b) (n : Nat) : ofB b (dg b n) = n := by
  induction n using Nat.strongRecOn with
  | _ n ih =>
    rcases Nat.eq_zero_or_pos n with rfl | hn
    · simp [dg_zero, ofB]
    · rw [dg_pos hb hn, ofB, ih _ (Nat.div_lt_self hn (by omega))]
      exact Nat.mod_add_div n b
theorem dg_lt {b : Nat} (hb : 2 ≤ b) (n : Nat) : ∀ d ∈ dg b n, d < b := by
  induction n using Nat.strongRecOn with
  | _ n ih =>
    intro d hd
    rcases Nat.eq_zero_or_pos n with rfl | hn
    · simp [dg_zero] at hd
    · rw [dg_pos hb hn] at hd
      rcases List.mem_cons.1 hd with rfl | hd
      · exact Nat.mod_lt _ (by omega)
      · exact ih _ (Nat.div_lt_self hn (by omega)) d hd
theorem ofB_append (b : Nat) (l m : List Nat) : ofB b (l ++ m) = ofB b l + b ^ l.length * ofB b m := by
  induction l with
  | nil => simp [ofB]
  | cons d l ih => simp only [List.cons_append, ofB, ih, List.length_cons, Nat.pow_succ, Nat.mul_add, Nat.add_assoc]; congr 2; rw [← Nat.mul_assoc, Nat.mul_comm b]
theorem ofB_snoc (b : Nat) (l : List Nat) (d : Nat) : ofB b (l ++ [d]) = ofB b l + b ^ l.length * d := by rw [ofB_append]; simp [ofB]
theorem ofB_lt {b : Nat} {l : List Nat} (h : ∀ d ∈ l, d < b) : ofB b l < b ^ l.length := by
  induction l with
  | nil => simp [ofB]
  | cons d l ih =>
    have h1 := ih fun x hx => h x (List.mem_cons_of_mem _ hx)
    have h2 := h d (List.mem_cons_self ..)
    simp only [ofB, List.length_cons, Nat.pow_succ]
    have h3 : b * (ofB b l + 1) ≤ b * b ^ l.length := Nat.mul_le_mul_left b h1
    rw [Nat.mul_add] at h3
    rw [Nat.mul_comm (b ^ l.length)]
    omega
theorem ofB_replicate (b n : Nat) : ofB b (List.replicate n 0) = 0 := by
  induction n with
  | zero => rfl
  | succ n ih => simp [List.replicate_succ, ofB, ih]
theorem ofB_pos {b : Nat} (hb : 0 < b) {l : List Nat} {j d : Nat} (h : l[j]? = some d) (hd : 0 < d) : 0 < ofB b l := by
  induction l generalizing j with
  | nil => simp at h
  | cons x l ih =>
    cases j with
    | zero => simp at h; subst h; simp only [ofB]; omega
    | succ j =>
      have := ih (j := j) (by simpa using h)
      simp only [ofB]
      have := Nat.mul_pos hb this
      omega

/-- Digits, the last one not 0, are those of what they come to. -/
theorem dg_ofB {b : Nat} (hb : 2 ≤ b) {l : List Nat} (h : ∀ d ∈ l, d < b) (hl : ∀ d, l.getLast? = some d → d ≠ 0) : dg b (ofB b l) = l := by
  induction l with
  | nil => simp [ofB, dg_zero]
  | cons d l ih =>
    have hd := h d (List.mem_cons_self ..)
    have hpos : 0 < d + b * ofB b l := by
      have hlast := hl ((d :: l).getLast (by simp)) (List.getLast?_eq_some_getLast (by simp))
      have : 0 < ofB b (d :: l) := by
        refine ofB_pos (by omega) (j := l.length) (d := (d :: l).getLast (by simp)) ?_ (by omega)
        rw [List.getLast_eq_getElem]; simp
      exact this
    rw [ofB, dg_cons hb hd hpos]
    cases l with
    | nil => simp [ofB, dg_zero]
    | cons e l => rw [ih (fun x hx => h x (List.mem_cons_of_mem _ hx)) (fun x hx => hl x (by simpa using hx))]

theorem dg_last {b : Nat} (hb : 2 ≤ b) (n : Nat) : ∀ d, (dg b n).getLast? = some d → d ≠ 0 := by
  induction n using Nat.strongRecOn with
  | _ n ih =>
    intro d hd
    rcases Nat.eq_zero_or_pos n with rfl | hn
    · simp [dg_zero] at hd
    · rw [dg_pos hb hn] at hd
      rcases Nat.eq_zero_or_pos (n / b) with h0 | h1
      · rw [h0, dg_zero] at hd
        simp at hd
        have := Nat.mod_add_div n b
        rw [h0] at this
        omega
      · rw [dg_pos hb h1] at hd
        rw [List.getLast?_cons_cons] at hd
        rw [← dg_pos hb h1] at hd
        exact ih _ (Nat.div_lt_self hn (by omega)) d hd
theorem dg_len_le {b : Nat} (hb : 2 ≤ b) {n k : Nat} (h : n < b ^ k) : (dg b n).length ≤ k := by
  induction k generalizing n with
  | zero => simp at h; subst h; simp [dg_zero]
  | succ k ih =>
    rcases Nat.eq_zero_or_pos n with rfl | hn
    · simp [dg_zero]
    · rw [dg_pos hb hn, List.length_cons]
      have := ih (n := n / b) (Nat.div_lt_of_lt_mul (by rwa [Nat.pow_succ, Nat.mul_comm] at h))
      omega
theorem lt_pow_dg {b : Nat} (hb : 2 ≤ b) (n : Nat) : n < b ^ (dg b n).length := by
  have := ofB_lt (dg_lt hb n); rwa [ofB_dg hb] at this
theorem dg_eq_nil {b : Nat} (hb : 2 ≤ b) {n : Nat} : dg b n = [] ↔ n = 0 := by
  constructor
  · intro h; have := ofB_dg hb n; rw [h] at this; simpa [ofB] using this.symm
  · rintro rfl; exact dg_zero b
theorem dg_len_pos {b : Nat} (hb : 2 ≤ b) {n : Nat} : 0 < (dg b n).length ↔ 0 < n := by
  have := dg_eq_nil hb (n := n)
  cases h : dg b n with
  | nil => rw [h] at this; simp at this; simp [this]
  | cons x l => rw [h] at this; simp at this; simp; omega
theorem dg_inj {b : Nat} (hb : 2 ≤ b) {m n : Nat} (h : dg b m = dg b n) : m = n := by rw [← ofB_dg hb m, h, ofB_dg hb]
/-- The power below a number with k + 1 digits. -/
theorem pow_le_of_dg {b : Nat} (hb : 2 ≤ b) {n k : Nat} (h : k < (dg b n).length) : b ^ k ≤ n := by
  rcases Nat.lt_or_ge n (b ^ k) with hlt | hge
  · have := dg_len_le hb hlt; omega
  · exact hge

/-- How many digits are left without noughts at the end, and which. -/
theorem dg_top {b : Nat} (hb : 2 ≤ b) {l : List Nat} (h : ∀ d ∈ l, d < b) {n : Nat} (hn : n ≤ l.length) (hz : ∀ j, n ≤ j → j < l.length → l[j]? = some 0)
    (ht : 0 < n → l[n - 1]? ≠ some 0) : l.take n = dg b (ofB b l) ∧ n = (dg b (ofB b l)).length := by
  have hl : l = l.take n ++ List.replicate (l.length - n) 0 := by
    apply List.ext_getElem?
    intro i
    rcases Nat.lt_or_ge i n with hi | hi
    · rw [List.getElem?_append_left (by simp; omega), List.getElem?_take, if_pos hi]
    · rw [List.getElem?_append_right (by simp; omega), List.length_take, Nat.min_eq_left hn]
      rcases Nat.lt_or_ge i l.length with h1 | h1
      · rw [hz i hi h1, List.getElem?_replicate, if_pos (by omega)]
      · rw [List.getElem?_eq_none (by omega), List.getElem?_replicate, if_neg (by omega)]
  have e : ofB b l = ofB b (l.take n) := by
    conv => lhs; rw [hl]
    rw [ofB_append, ofB_replicate]; simp
  have hd : dg b (ofB b (l.take n)) = l.take n := by
    refine dg_ofB hb (fun d hd => h d (List.mem_of_mem_take hd)) ?_
    intro d hd
    rw [List.getLast?_eq_getElem?, List.length_take, Nat.min_eq_left hn] at hd
    rcases Nat.eq_zero_or_pos n with rfl | hp
    · simp at hd
    · rw [List.getElem?_take, if_pos (by omega)] at hd
      intro e; subst e
      exact ht hp hd
  rw [e, hd]
  exact ⟨rfl, by simp; omega⟩

theorem dg_top' {b : Nat} (hb : 2 ≤ b) {l : List Nat} (h : ∀ d ∈ l, d < b) : dg b (ofB b l) = l.take (dg b (ofB b l)).length := by
  induction l with
  | nil => simp [ofB, dg_zero]
  | cons d l ih =>
    have ih := ih fun x hx => h x (List.mem_cons_of_mem _ hx)
    have hd := h d (List.mem_cons_self ..)
    rcases Nat.eq_zero_or_pos (ofB b (d :: l)) with h0 | h0
    · rw [h0, dg_zero]; rfl
    · rw [ofB] at h0 ⊢
      rw [dg_cons hb hd h0, List.length_cons, List.take_succ_cons, ← ih]
/-- A digit of a number. -/
theorem dg_get {b : Nat} (hb : 2 ≤ b) (n i : Nat) : (dg b n).getD i 0 = n / b ^ i % b := by
  induction i generalizing n with
  | zero =>
    rcases Nat.eq_zero_or_pos n with rfl | hn
    · simp [dg_zero]
    · rw [dg_pos hb hn]; simp
  | succ i ih =>
    rcases Nat.eq_zero_or_pos n with rfl | hn
    · simp [dg_zero]
    · rw [dg_pos hb hn, List.getD_cons_succ, ih, Nat.div_div_eq_div_mul, Nat.pow_succ, Nat.mul_comm b]
/-- A digit of what digits come to. -/
theorem ofB_get {b : Nat} (hb : 0 < b) {l : List Nat} (h : ∀ d ∈ l, d < b) (i : Nat) : l.getD i 0 = ofB b l / b ^ i % b := by
  induction l generalizing i with
  | nil => simp [ofB]
  | cons d l ih =>
    have hd := h d (List.mem_cons_self ..)
    cases i with
    | zero => simp only [List.getD_cons_zero, ofB, Nat.pow_zero, Nat.div_one, Nat.add_mul_mod_self_left]; exact (Nat.mod_eq_of_lt hd).symm
    | succ i =>
      rw [List.getD_cons_succ, ih (fun x hx => h x (List.mem_cons_of_mem _ hx)), ofB, Nat.pow_succ, Nat.mul_comm (b ^ i), ← Nat.div_div_eq_div_mul, Nat.add_mul_div_left _ _ hb, Nat.div_eq_of_lt hd, Nat.zero_add]

/-- A sum over places. -/
def sumTo (b : Nat) (f : Nat → Nat) : Nat → Nat
  | 0 => 0
  | n + 1 => sumTo b f n + b ^ n * f n
theorem sumTo_add (b : Nat) (f g : Nat → Nat) (n : Nat) : sumTo b (fun i => f i + g i) n = sumTo b f n + sumTo b g n := by
  induction n with
  | zero => rfl
  | succ n ih => simp only [sumTo, ih, Nat.mul_add]; omega
theorem sumTo_congr {b : Nat} {f g : Nat → Nat} {n : Nat} (h : ∀ i, i < n → f i = g i) : sumTo b f n = sumTo b g n := by
  induction n with
  | zero => rfl
  | succ n ih => simp only [sumTo]; rw [ih fun i hi => h i (by omega), h n (by omega)]
theorem sumTo_getD (b : Nat) (l : List Nat) (n : Nat) : sumTo b (fun i => l.getD i 0) n = ofB b (l.take n) := by
  induction n with
  | zero => simp [sumTo, ofB]
  | succ n ih =>
    rw [sumTo, ih]
    rcases Nat.lt_or_ge n l.length with h | h
    · rw [List.take_succ_eq_append_getElem h, ofB_snoc, List.length_take, Nat.min_eq_left (by omega), List.getD_eq_getElem?_getD, List.getElem?_eq_getElem h]; rfl
    · rw [List.take_of_length_le h, List.take_of_length_le (by omega), List.getD_eq_getElem?_getD, List.getElem?_eq_none h]; simp
theorem sumTo_all (b : Nat) (l : List Nat) (n : Nat) (h : l.length ≤ n) : sumTo b (fun i => l.getD i 0) n = ofB b l := by rw [sumTo_getD, List.take_of_length_le h]

/-! ### Bits -/
/-- how many bits a number has -/
def blen (n : Nat) : Nat := (dg 2 n).length
theorem blen_zero : blen 0 = 0 := by simp [blen, dg_zero]
theorem blen_of {n k : Nat} (h1 : 2 ^ k ≤ n) (h2 : n < 2 ^ (k + 1)) : blen n = k + 1 := by
  have a := dg_len_le (by omega) h2
  have b := lt_pow_dg (b := 2) (by omega) n
  unfold blen
  rcases Nat.lt_or_ge (dg 2 n).length (k + 1) with h | h
  · have : 2 ^ (dg 2 n).length ≤ 2 ^ k := Nat.pow_le_pow_right (by omega) (by omega)
    omega
  · omega
theorem blen_pos {n : Nat} (h : 0 < n) : ∃ k, blen n = k + 1 ∧ 2 ^ k ≤ n ∧ n < 2 ^ (k + 1) := by
  have h0 := (dg_len_pos (b := 2) (by omega)).2 h
  refine ⟨(dg 2 n).length - 1, by unfold blen; omega, ?_, ?_⟩
  · exact pow_le_of_dg (by omega) (by omega)
  · rw [Nat.sub_add_cancel h0]; exact lt_pow_dg (by omega) n
theorem blen_half {n : Nat} (h : 0 < n) : blen n = 1 + blen (n / 2) := by
  unfold blen; rw [dg_pos (by omega) h, List.length_cons]; omega
theorem blen_top {lo a x : Nat} (h1 : lo < 2 ^ a) (hx : 0 < x) : blen (lo + 2 ^ a * x) = a + blen x := by
  obtain ⟨k, e, h2, h3⟩ := blen_pos hx
  rw [e, ← Nat.add_assoc]
  refine blen_of ?_ ?_
  · rw [Nat.pow_add]; have := Nat.mul_le_mul_left (2 ^ a) h2; omega
  · rw [Nat.add_assoc, Nat.pow_add]
    have := Nat.mul_le_mul_left (2 ^ a) (show x + 1 ≤ 2 ^ (k + 1) from h3)
    rw [Nat.mul_add] at this
    omega
end Go.Proofs.YtlppcfeimpcbjaaGreat


/- The vocabulary of this seat's proofs: frames ('Fr'), typed readings of memory with the blocks that they lean on ('Kd', 'Sl', 'Own'). No program in sight. -/
namespace Go.Proofs.YtlppcfeimpcbjaaGreat
open Go.RowKit

/-! ### Frames -/

/-- The blocks of S lie in w' as they lay in w; no block has gone; the streams are as they were. -/
structure Fr (S : Nat → Prop) (w w' : World) : Prop where
  os : w'.os = w.os
  tape : w'.tape = w.tape
  output : w'.output = w.output
  size : w.heap.size ≤ w'.heap.size
  block : ∀ k, k < w.heap.size → S k → w'.heap[k]? = w.heap[k]?

theorem Fr.refl (S : Nat → Prop) (w : World) : Fr S w w := ⟨rfl, rfl, rfl, Nat.le_refl _, fun _ _ _ => rfl⟩
theorem Fr.comp {S T R : Nat → Prop} {a b c : World} (h : Fr S a b) (k : Fr T b c) (hs : ∀ i, i < a.heap.size → R i → S i ∧ T i) : Fr R a c :=
  ⟨k.os.trans h.os, k.tape.trans h.tape, k.output.trans h.output, Nat.le_trans h.size k.size, fun i hi hr =>
    (k.block i (Nat.lt_of_lt_of_le hi h.size) (hs i hi hr).2).trans (h.block i hi (hs i hi hr).1)⟩
theorem Fr.trans {S : Nat → Prop} {a b c : World} (h : Fr S a b) (k : Fr S b c) : Fr S a c := h.comp k fun _ _ r => ⟨r, r⟩
theorem Fr.mono {S T : Nat → Prop} {a b : World} (h : Fr S a b) (hs : ∀ i, i < a.heap.size → T i → S i) : Fr T a b :=
  ⟨h.os, h.tape, h.output, h.size, fun i hi ht => h.block i hi (hs i hi ht)⟩
theorem Fr.drew {S : Nat → Prop} {a b : World} (h : Fr S a b) : Fr S a b.drew := ⟨h.os, h.tape, h.output, h.size, h.block⟩
theorem Fr.drewN {S : Nat → Prop} {a b : World} (h : Fr S a b) (n : Nat) : Fr S a (b.drewN n) := ⟨h.os, h.tape, h.output, h.size, h.block⟩
theorem Fr.alloc {S : Nat → Prop} {a b : World} (h : Fr S a b) (o : Obj) : Fr S a (b.alloc o) :=
  h.trans ⟨rfl, rfl, rfl, by simp, fun k hk _ => Below.heap_alloc _ _ _ hk⟩
theorem Fr.setCell {S : Nat → Prop} {a b : World} (h : Fr S a b) {p : Addr} (hp : p.block < a.heap.size → ¬ S p.block) (u : Value) : Fr S a (b.setCell p u) :=
  ⟨h.os, h.tape, h.output, by simp [World.setCell]; exact h.size, fun k hk hs => by
    rw [Below.heap_setCell _ _ _ _ (fun e => by subst e; exact hp hk hs)]; exact h.block k hk hs⟩
theorem Fr.grown {S : Nat → Prop} {a b c : World} {row : Option Nat} (h : Fr S a b) (hg : b.grownBy c row) (hr : ∀ k, row = some k → k < a.heap.size → ¬ S k) : Fr S a c :=
  h.comp (T := fun k => some k ≠ row) ⟨hg.os, hg.tape, hg.output, hg.size, fun k hk hs => hg.block k hk hs⟩ fun i hi hs => ⟨hs, fun e => hr i e.symm hi hs⟩
theorem Fr.cell {S : Nat → Prop} {a b : World} (h : Fr S a b) {p : Addr} {v : Value} (hc : a.cell? p = some v) (hs : S p.block) : b.cell? p = some v :=
  (World.cell?_of_block (w := a) (h.block p.block (World.block_lt_of_cell? a p hc) hs)).trans hc
theorem Fr.obj {S : Nat → Prop} {a b : World} (h : Fr S a b) {k : Nat} {o : Obj} (hc : a.heap[k]? = some o) (hs : S k) : b.heap[k]? = some o :=
  (h.block k (Array.getElem?_eq_some_iff.1 hc).1 hs).trans hc
theorem Fr.below {w w' : World} (h : Fr (fun k => k < w.heap.size) w w') : Below w.heap.size w w' :=
  ⟨h.os, h.tape, h.output, h.size, fun k hk => h.block k hk hk⟩
theorem Fr.of_below {B : Nat} {w w' : World} (h : Below B w w') : Fr (fun k => k < B) w w' := ⟨h.os, h.tape, h.output, h.size, fun k _ hk => h.block k hk⟩
theorem Fr.of_grown {w w' : World} {row : Option Nat} (hg : w.grownBy w' row) : Fr (fun k => some k ≠ row) w w' := ⟨hg.os, hg.tape, hg.output, hg.size, fun k hk hs => hg.block k hk hs⟩

theorem addr_add_add (a : Addr) (m n : Nat) : (a.add m).add n = a.add (m + n) := by
  unfold Addr.add
  by_cases hm : m = 0 <;> by_cases hn : n = 0 <;> simp_all <;> omega
theorem addr_block (a : Addr) (m : Nat) : (a.add m).block = a.block := by unfold Addr.add; split <;> rfl
theorem addr_zero (a : Addr) : a.add 0 = a := by simp [Addr.add]
theorem addr_lit (g o m : Nat) : (⟨g, o, none⟩ : Addr).add m = ⟨g, o + m, none⟩ := by unfold Addr.add; split <;> simp_all

/-! ### Kinds of data -/

/-- A kind of data: how many cells one fills, and when cells of a world read as one, all memory behind it lying in blocks of S. -/
structure Kd (α : Type) where
  size : Nat
  rd : (Nat → Prop) → World → α → List Value → Prop
  len : ∀ {S w x cs}, rd S w x cs → cs.length = size
  one : ∀ {S w x cs}, rd S w x cs → ∀ u ∈ cs, u.oneCell' = true
  mono : ∀ {S T w x cs}, (∀ k, S k → T k) → rd S w x cs → rd T w x cs
  bd : ∀ {S w x cs}, rd S w x cs → rd (fun k => S k ∧ k < w.heap.size) w x cs
  fr : ∀ {S w w' x cs}, rd S w x cs → Fr S w w' → rd S w' x cs

/-- Numbers of a kind of ints, from 0 on, below a bound. -/
def Kd.nat (k : IntKind) (b : Nat) : Kd Nat where
  size := 1
  rd _ _ x cs := cs = [.int k (x : Int)] ∧ x < b
  len h := by rw [h.1]; rfl
  one h u hu := by rw [h.1] at hu; simp at hu; subst hu; rfl
  mono _ h := h
  bd h := h
  fr h _ := h

theorem Kd.nat_any {k : IntKind} {b : Nat} {S T : Nat → Prop} {w : World} {x : Nat} {cs : List Value} (h : (Kd.nat k b).rd S w x cs) : (Kd.nat k b).rd T w x cs := h

/-- Integers of a kind between two bounds. -/
def Kd.int (k : IntKind) (lo hi : Int) : Kd Int where
  size := 1
  rd _ _ x cs := cs = [.int k x] ∧ lo ≤ x ∧ x < hi
  len h := by rw [h.1]; rfl
  one h u hu := by rw [h.1] at hu; simp at hu; subst hu; rfl
  mono _ h := h
  bd h := h
  fr h _ := h

theorem Kd.int_any {k : IntKind} {lo hi : Int} {S T : Nat → Prop} {w : World} {x : Int} {cs : List Value} (h : (Kd.int k lo hi).rd S w x cs) : (Kd.int k lo hi).rd T w x cs := h

/-- A slice that reads as a list. -/
def Sl {α : Type} (K : Kd α) (S : Nat → Prop) (w : World) (v : Value) (xs : List α) : Prop :=
  ∃ A c, v = .slice A xs.length c ∧ xs.length ≤ c ∧ c ≤ 9223372036854775807 ∧ (A = none → c = 0) ∧
    (0 < xs.length → ∃ ad, A = some ad ∧ S ad.block ∧ ∀ (i : Nat) (x : α), xs[i]? = some x →
      ∃ cs, K.rd S w x cs ∧ ∀ (j : Nat) (u : Value), cs[j]? = some u → w.cell? (ad.add (i * K.size + j)) = some u)

section
variable {α : Type} {K : Kd α} {S T : Nat → Prop} {w w' : World} {v : Value} {xs : List α}

theorem Sl.nil (K : Kd α) (S : Nat → Prop) (w : World) : Sl K S w (.slice none 0 0) [] := ⟨none, 0, rfl, Nat.le_refl _, by omega, fun _ => rfl, fun h => absurd h (by simp)⟩
theorem Sl.mono (h : Sl K S w v xs) (hs : ∀ k, S k → T k) : Sl K T w v xs := by
  obtain ⟨A, c, rfl, h1, h2, h3, h4⟩ := h
  refine ⟨A, c, rfl, h1, h2, h3, fun hl => ?_⟩
  obtain ⟨ad, rfl, hS, hc⟩ := h4 hl
  exact ⟨ad, rfl, hs _ hS, fun i x hx => let ⟨cs, hr, hu⟩ := hc i x hx; ⟨cs, K.mono hs hr, hu⟩⟩
theorem Sl.any (h : Sl K S w v xs) : Sl K (fun _ => True) w v xs := h.mono fun _ _ => trivial
end

theorem Kd.cells_size {α : Type} {K : Kd α} {S : Nat → Prop} {w : World} {x : α} {cs : List Value} (h : K.rd S w x cs) (hpos : 0 < K.size) : ∃ u, cs[0]? = some u := by
  have := K.len h
  cases cs with
  | nil => simp at this; omega
  | cons u r => exact ⟨u, rfl⟩

section
variable {α : Type} {K : Kd α} {S T : Nat → Prop} {w w' : World} {v : Value} {xs : List α}

theorem Sl.bd (hpos : 0 < K.size) (h : Sl K S w v xs) : Sl K (fun k => S k ∧ k < w.heap.size) w v xs := by
  obtain ⟨A, c, rfl, h1, h2, h3, h4⟩ := h
  refine ⟨A, c, rfl, h1, h2, h3, fun hl => ?_⟩
  obtain ⟨ad, rfl, hS, hc⟩ := h4 hl
  refine ⟨ad, rfl, ⟨hS, ?_⟩, fun i x hx => let ⟨cs, hr, hu⟩ := hc i x hx; ⟨cs, K.bd hr, hu⟩⟩
  obtain ⟨x, hx⟩ : ∃ x, xs[0]? = some x := ⟨xs[0], by simp⟩
  obtain ⟨cs, hr, hu⟩ := hc 0 x hx
  obtain ⟨u, hu0⟩ := Kd.cells_size hr hpos
  have := World.block_lt_of_cell? w _ (hu 0 u hu0)
  rwa [addr_block] at this
theorem Sl.fr (h : Sl K S w v xs) (hf : Fr S w w') : Sl K S w' v xs := by
  obtain ⟨A, c, rfl, h1, h2, h3, h4⟩ := h
  refine ⟨A, c, rfl, h1, h2, h3, fun hl => ?_⟩
  obtain ⟨ad, rfl, hS, hc⟩ := h4 hl
  exact ⟨ad, rfl, hS, fun i x hx => let ⟨cs, hr, hu⟩ := hc i x hx; ⟨cs, K.fr hr hf, fun j u hj => hf.cell (hu j u hj) (by rw [addr_block]; exact hS)⟩⟩
/-- What holds of the memory as it was: it is enough that the blocks that lay then lie as they lay. -/
theorem Sl.keep (hpos : 0 < K.size) (h : Sl K S w v xs) (hf : Fr (fun k => k < w.heap.size ∧ S k) w w') : Sl K S w' v xs :=
  (Sl.fr (Sl.bd hpos h) (hf.mono fun _ _ hk => ⟨hk.2, hk.1⟩)).mono fun _ hk => hk.1
theorem Sl.keep' (hpos : 0 < K.size) (h : Sl K S w v xs) (hf : Fr (fun k => k < w.heap.size) w w') : Sl K S w' v xs :=
  h.keep hpos (hf.mono fun _ _ hk => hk.1)
/-- What was read when a call began, at a later time, of blocks below B. -/
theorem Sl.up (hpos : 0 < K.size) (h : Sl K S w v xs) {B : Nat} (hB : w.heap.size ≤ B) (hf : Fr (fun k => k < w.heap.size) w w') : Sl K (fun k => k < B) w' v xs :=
  (Sl.fr ((Sl.bd hpos h).mono (T := fun k => k < w.heap.size) fun _ hk => hk.2) hf).mono fun _ hk => Nat.lt_of_lt_of_le hk hB
theorem Sl.slice (h : Sl K S w v xs) : ∃ A c, v = .slice A xs.length c ∧ xs.length ≤ c ∧ c ≤ 9223372036854775807 ∧ xs.length ≤ 9223372036854775807 := by
  obtain ⟨A, c, rfl, h1, h2, _⟩ := h
  exact ⟨A, c, rfl, h1, h2, by omega⟩
end

theorem Sl.take {α : Type} {K : Kd α} {S : Nat → Prop} {w : World} {A : Option Addr} {n c m : Nat} {xs : List α} (h : Sl K S w (.slice A n c) xs) (hm : m ≤ xs.length) : Sl K S w (.slice A m c) (xs.take m) := by
  obtain ⟨A', c', he, h1, h2, h3, h4⟩ := h
  cases he
  have hlm : (xs.take m).length = m := by simp; omega
  refine ⟨A, c, by rw [hlm], by omega, h2, h3, fun hp => ?_⟩
  obtain ⟨ad, rfl, hS, hc⟩ := h4 (by omega)
  refine ⟨ad, rfl, hS, fun i x hx => ?_⟩
  rw [List.getElem?_take] at hx
  split at hx
  · exact hc i x hx
  · cases hx

/-- A slice as one of a struct's fields, or as an element. -/
def Kd.sl {α : Type} (K : Kd α) (hpos : 0 < K.size) : Kd (List α) where
  size := 1
  rd S w xs cs := ∃ v, cs = [v] ∧ Sl K S w v xs
  len h := by obtain ⟨v, rfl, _⟩ := h; rfl
  one h u hu := by
    obtain ⟨v, rfl, A, c, rfl, _⟩ := h
    simp at hu; subst hu; rfl
  mono hs h := by obtain ⟨v, rfl, h⟩ := h; exact ⟨v, rfl, h.mono hs⟩
  bd h := by obtain ⟨v, rfl, h⟩ := h; exact ⟨v, rfl, h.bd hpos⟩
  fr h hf := by obtain ⟨v, rfl, h⟩ := h; exact ⟨v, rfl, h.fr hf⟩

/-! ### Slices of the call's own, that may grow -/

def Own {α : Type} (K : Kd α) (e : TypeId) (S : Nat → Prop) (w : World) (v : Value) (xs : List α) : Prop :=
  ∃ cells, w.ownsRow 0 e K.size v xs.length cells ∧ (∀ g, v.ownBlock = some g → S g) ∧
    ∀ (i : Nat) (x : α), xs[i]? = some x → ∃ cs, K.rd (fun k => S k ∧ some k ≠ v.ownBlock) w x cs ∧ ∀ (j : Nat) (u : Value), cs[j]? = some u → cells[i * K.size + j]? = some u

section
variable {α : Type} {K : Kd α} {e : TypeId} {S T : Nat → Prop} {w w' : World} {v : Value} {xs : List α}

theorem Own.nil (K : Kd α) (e : TypeId) (S : Nat → Prop) (w : World) : Own K e S w (.slice none 0 0) [] :=
  ⟨[], World.ownsRow_nil _ _ _ _, fun g hg => by simp [Value.ownBlock] at hg, fun i x hx => by simp at hx⟩
theorem Own.lt (h : Own K e S w v xs) : ∀ k, v.ownBlock = some k → k < w.heap.size := fun k hk => by
  obtain ⟨_, h, _⟩ := h; exact (h.lt k hk).2
theorem Own.in_ (h : Own K e S w v xs) : ∀ k, v.ownBlock = some k → S k := h.choose_spec.2.1
theorem Own.mono (h : Own K e S w v xs) (hs : ∀ k, S k → T k) : Own K e T w v xs := by
  obtain ⟨cells, h1, h2, h3⟩ := h
  exact ⟨cells, h1, fun g hg => hs g (h2 g hg), fun i x hx => let ⟨cs, hr, hu⟩ := h3 i x hx; ⟨cs, K.mono (fun k hk => ⟨hs k hk.1, hk.2⟩) hr, hu⟩⟩
theorem Own.bd (h : Own K e S w v xs) : Own K e (fun k => S k ∧ k < w.heap.size) w v xs := by
  have hlt := h.lt
  obtain ⟨cells, h1, h2, h3⟩ := h
  exact ⟨cells, h1, fun g hg => ⟨h2 g hg, hlt g hg⟩, fun i x hx => let ⟨cs, hr, hu⟩ := h3 i x hx; ⟨cs, K.mono (fun k hk => ⟨⟨hk.1.1, hk.2⟩, hk.1.2⟩) (K.bd hr), hu⟩⟩
theorem Own.fr (h : Own K e S w v xs) (hf : Fr S w w') : Own K e S w' v xs := by
  obtain ⟨cells, h1, h2, h3⟩ := h
  refine ⟨cells, ?_, h2, fun i x hx => let ⟨cs, hr, hu⟩ := h3 i x hx; ⟨cs, K.fr hr (hf.mono fun _ _ hk => hk.1), hu⟩⟩
  refine ⟨h1.1, ?_⟩
  rcases h1.2 with hn | ⟨g, cap, cur, rfl, hb, hg, rest⟩
  · exact .inl hn
  · exact .inr ⟨g, cap, cur, rfl, hb, hf.obj hg (h2 g rfl), rest⟩
theorem Own.keep (h : Own K e S w v xs) (hf : Fr (fun k => k < w.heap.size ∧ S k) w w') : Own K e S w' v xs :=
  (Own.fr (Own.bd h) (hf.mono fun _ _ hk => ⟨hk.2, hk.1⟩)).mono fun _ hk => hk.1
theorem Own.keep' (h : Own K e S w v xs) (hf : Fr (fun k => k < w.heap.size) w w') : Own K e S w' v xs := h.keep (hf.mono fun _ _ hk => hk.1)

theorem Own.sl (h : Own K e S w v xs) : Sl K S w v xs := by
  obtain ⟨cells, h1, h2, h3⟩ := h
  obtain ⟨hlen, ⟨rfl, hn⟩ | ⟨g, cap, cur, rfl, hb, hg, hcap, hmax, hsz, htake⟩⟩ := h1
  · obtain rfl : xs = [] := List.eq_nil_of_length_eq_zero hn
    exact Sl.nil _ _ _
  · refine ⟨some ⟨g, 0, none⟩, cap, rfl, hcap, hmax, fun h => by simp at h, fun _ => ⟨_, rfl, h2 g rfl, fun i x hx => ?_⟩⟩
    obtain ⟨cs, hr, hu⟩ := h3 i x hx
    refine ⟨cs, K.mono (fun k hk => hk.1) hr, fun j u hj => ?_⟩
    have hcu := hu j u hj
    rw [← htake, List.getElem?_take] at hcu
    split at hcu
    · rw [addr_lit, cell_of_row w g _ cur e (0, 0) hg]
      simpa using hcu
    · cases hcu
theorem Own.slice (h : Own K e S w v xs) : ∃ A c, v = .slice A xs.length c ∧ xs.length ≤ c ∧ c ≤ 9223372036854775807 ∧ xs.length ≤ 9223372036854775807 := h.sl.slice
end

theorem flat_cells {α : Type} {K : Kd α} {T : Nat → Prop} {w : World} : ∀ (ys : List α) (ad : Addr),
    (∀ (i : Nat) (x : α), ys[i]? = some x → ∃ cs, K.rd T w x cs ∧ ∀ (j : Nat) (u : Value), cs[j]? = some u → w.cell? (ad.add (i * K.size + j)) = some u) →
    ∃ news : List Value, news.length = ys.length * K.size ∧ (∀ (j : Nat) (u : Value), news[j]? = some u → w.cell? (ad.add j) = some u) ∧ (∀ u ∈ news, u.oneCell' = true) ∧
      ∀ (i : Nat) (x : α), ys[i]? = some x → ∃ cs, K.rd T w x cs ∧ ∀ (j : Nat) (u : Value), cs[j]? = some u → news[i * K.size + j]? = some u := by
  intro ys
  induction ys with
  | nil => exact fun ad _ => ⟨[], by simp, by simp, by simp, by simp⟩
  | cons y ys ih =>
    intro ad h
    obtain ⟨cs, hr, hu⟩ := h 0 y rfl
    have hcl := K.len hr
    obtain ⟨news, h1, h2, h3, h4⟩ := ih (ad.add K.size) (fun i x hx => by
      obtain ⟨cs', hr', hu'⟩ := h (i + 1) x (by simpa using hx)
      refine ⟨cs', hr', fun j u hj => ?_⟩
      have := hu' j u hj
      rwa [addr_add_add, ← Nat.add_assoc, Nat.add_comm K.size, ← Nat.succ_mul])
    refine ⟨cs ++ news, ?_, ?_, ?_, ?_⟩
    · simp only [List.length_append, List.length_cons, hcl, h1, Nat.succ_mul]; omega
    · intro j u hj
      rcases Nat.lt_or_ge j cs.length with hlt | hge
      · rw [List.getElem?_append_left hlt] at hj
        have := hu j u hj
        simpa using this
      · rw [List.getElem?_append_right hge] at hj
        have := h2 _ u hj
        rw [addr_add_add] at this
        rwa [hcl, Nat.add_sub_cancel' (by omega)] at this
    · intro u hu'
      rcases List.mem_append.1 hu' with hm | hm
      · exact K.one hr u hm
      · exact h3 u hm
    · intro i x hx
      cases i with
      | zero =>
        simp at hx; subst hx
        refine ⟨cs, hr, fun j u hj => ?_⟩
        rw [Nat.zero_mul, Nat.zero_add, List.getElem?_append_left (List.getElem?_eq_some_iff.1 hj).1]
        exact hj
      | succ i =>
        obtain ⟨cs', hr', hu'⟩ := h4 i x (by simpa using hx)
        refine ⟨cs', hr', fun j u hj => ?_⟩
        rw [List.getElem?_append_right (by rw [hcl, Nat.succ_mul]; omega), hcl]
        have e : (i + 1) * K.size + j - K.size = i * K.size + j := by rw [Nat.succ_mul]; omega
        rw [e]
        exact hu' j u hj

/-- What a slice reads as lies in cells, one behind the other. -/
theorem Sl.flat {α : Type} {K : Kd α} {T : Nat → Prop} {w : World} {x : Value} {ys : List α} (h : Sl K T w x ys) :
    (x = .slice none 0 0 ∧ ys = []) ∨ ∃ (ad : Addr) (c : Nat) (news : List Value), x = .slice (some ad) ys.length c ∧ news.length = ys.length * K.size ∧ (∀ (j : Nat) (u : Value), news[j]? = some u → w.cell? (ad.add j) = some u) ∧ (∀ u ∈ news, u.oneCell' = true) ∧
      ∀ (i : Nat) (x : α), ys[i]? = some x → ∃ cs, K.rd T w x cs ∧ ∀ (j : Nat) (u : Value), cs[j]? = some u → news[i * K.size + j]? = some u := by
  obtain ⟨A, c, rfl, h1, h2, h3, h4⟩ := h
  cases ys with
  | nil =>
    cases A with
    | none => exact .inl ⟨by rw [h3 rfl]; rfl, rfl⟩
    | some ad => exact .inr ⟨ad, c, [], rfl, by simp, by simp, by simp, by simp⟩
  | cons y ys =>
    obtain ⟨ad, rfl, _, hc⟩ := h4 (by simp)
    obtain ⟨news, g1, g2, g3, g4⟩ := flat_cells (y :: ys) ad hc
    exact .inr ⟨ad, c, news, rfl, g1, g2, g3, g4⟩

/-- A run of append: the source reads as 'ys' and shares nothing with the slice that grows. -/
theorem run_push {P : Program} {α : Type} (K : Kd α) (hpos : 0 < K.size) {w : World} (t ty e : TypeId) (i : TypeInfo) (z : Value) (bytes : Nat)
    (ht : P.underlying t = some (.slice e)) (hi : P.info? e = some i) (hz : i.zero = some z) (hsize : i.size = K.size) (hby : i.bytes = bytes) (hzs : z.cells.size = K.size)
    {S T : Nat → Prop} {v x : Value} {xs ys : List α} (h : Own K e S w v xs) (hx : Sl K T w x ys) (hE : ∀ y cs, K.rd T w y cs → K.rd (fun k => S k ∧ some k ≠ v.ownBlock) w y cs)
    (hnew : ∀ k, w.heap.size ≤ k → S k) (hl : (xs.length + ys.length) * bytes ≤ 140737488355328) (hm : xs.length + ys.length ≤ 9223372036854775807) :
    ∃ v' w', (Builtin.append_ #[t, t] ty #[v, x]).run P w = .ok v' w' ∧ Own K e S w' v' (xs ++ ys) ∧ w.grownBy w' v.ownBlock ∧
      (v'.ownBlock = v.ownBlock ∨ ∃ b, v'.ownBlock = some b ∧ w.heap.size ≤ b) := by
  have hlt := h.lt
  obtain ⟨cells, h1, h2, h3⟩ := h
  rcases Sl.flat hx with ⟨rfl, rfl⟩ | ⟨ad, c, news, rfl, g1, g2, g3, g4⟩
  · refine ⟨v, w, run_append_owned_none (P := P) (w := w) 0 t ty e i K.size ht hi v xs.length cells h1, by simpa using ⟨cells, h1, h2, h3⟩, ⟨rfl, rfl, rfl, Nat.le_refl _, fun _ _ _ => rfl⟩, .inl rfl⟩
  · obtain ⟨v', w', hrun, hown, hg, hat⟩ : ∃ v' w', (Builtin.append_ #[t, t] ty #[v, .slice (some ad) ys.length c]).run P w = .ok v' w' ∧ w'.ownsRow 0 e K.size v' (xs.length + ys.length) (cells ++ news) ∧
        w.grownBy w' v.ownBlock ∧ (v'.ownBlock = v.ownBlock ∨ ∃ b, v'.ownBlock = some b ∧ w.heap.size ≤ b) := by
      rcases h1.2 with ⟨rfl, hn⟩ | ⟨g, cap, cur, rfl, hb, hgg, hcap, rest⟩
      · have h1' : w.ownsRow w.heap.size e K.size (.slice none 0 0) xs.length cells := ⟨h1.1, .inl ⟨rfl, hn⟩⟩
        obtain ⟨v', w', r1, r2, r3, r4⟩ := run_append_own (P := P) w w.heap.size t ty e i z K.size bytes ht hi hz hsize hby hzs hpos _ xs.length cells h1' ad ys.length c news g1 g2 g3 hm hl (Nat.le_refl _)
        refine ⟨v', w', r1, ⟨r2.1, ?_⟩, r3, ?_⟩
        · rcases r2.2 with q | ⟨g, cap, cur, q1, q2, q3⟩
          · exact .inl q
          · exact .inr ⟨g, cap, cur, q1, Nat.zero_le _, q3⟩
        · rcases r2.2 with ⟨rfl, _⟩ | ⟨g, cap, cur, rfl, q2, _⟩
          · exact .inl rfl
          · exact .inr ⟨g, rfl, q2⟩
      · by_cases hroom : xs.length + ys.length ≤ cap
        · obtain ⟨w', r1, r2, r3⟩ := run_append_fits (P := P) w 0 t ty e i K.size ht hi hsize g xs.length cap cells h1 ad ys.length c news g1 g2 g3 hroom
          exact ⟨_, w', r1, r2, r3, .inl rfl⟩
        · obtain ⟨v', w', r1, r2, r3⟩ := run_append_arg_grows (P := P) w t ty e i z K.size bytes ht hi hz hsize hby hzs hpos ⟨g, 0, none⟩ xs.length cap cells h1.1 (h1.cells rfl) ad ys.length c news g1 g2 (by omega) hm hl
          refine ⟨v', w', r1, ⟨r2.1, ?_⟩, ⟨r3.os, r3.tape, r3.output, r3.size, fun k hk _ => r3.block k hk (by simp)⟩, ?_⟩
          · rcases r2.2 with q | ⟨g, cap, cur, q1, q2, q3⟩
            · exact .inl q
            · exact .inr ⟨g, cap, cur, q1, Nat.zero_le _, q3⟩
          · rcases r2.2 with ⟨rfl, hz0⟩ | ⟨g, cap, cur, rfl, q2, _⟩
            · exfalso; omega
            · exact .inr ⟨g, rfl, q2⟩
    have hfr : Fr (fun k => some k ≠ v.ownBlock) w w' := Fr.of_grown hg
    have hsize' := h1.1
    refine ⟨v', w', hrun, ⟨cells ++ news, by rw [List.length_append]; exact hown, ?_, ?_⟩, hg, hat⟩
    · intro g hgv
      rcases hat with q | ⟨b, q, hb⟩
      · exact h2 g (q ▸ hgv)
      · rw [q] at hgv; cases hgv; exact hnew _ hb
    · have hkeep : ∀ k, k < w.heap.size → some k ≠ v.ownBlock → some k ≠ v'.ownBlock := by
        intro k hk hne
        rcases hat with q | ⟨b, q, hb⟩
        · rw [q]; exact hne
        · rw [q]; intro e; cases e; omega
      intro i x hx
      rcases Nat.lt_or_ge i xs.length with hlt' | hge
      · rw [List.getElem?_append_left hlt'] at hx
        obtain ⟨cs, hr, hu⟩ := h3 i x hx
        refine ⟨cs, K.mono (fun k hk => ⟨hk.1.1, hkeep k hk.2 hk.1.2⟩) (K.fr (K.bd hr) (hfr.mono fun _ _ hk => hk.1.2)), fun j u hj => ?_⟩
        have hc := hu j u hj
        rw [List.getElem?_append_left (List.getElem?_eq_some_iff.1 hc).1]
        exact hc
      · rw [List.getElem?_append_right hge] at hx
        obtain ⟨cs, hr, hu⟩ := g4 _ x hx
        have hTw : K.rd (fun k => (S k ∧ some k ≠ v.ownBlock) ∧ k < w.heap.size) w x cs := K.bd (hE _ _ hr)
        refine ⟨cs, K.mono (fun k hk => ⟨hk.1.1, hkeep k hk.2 hk.1.2⟩) (K.fr hTw (hfr.mono fun _ _ hk => hk.1.2)), fun j u hj => ?_⟩
        have hc := hu j u hj
        have hle : xs.length * K.size ≤ i * K.size := Nat.mul_le_mul_right _ hge
        rw [List.getElem?_append_right (by rw [hsize']; omega), hsize']
        rw [Nat.sub_mul] at hc
        rw [show i * K.size + j - xs.length * K.size = i * K.size - xs.length * K.size + j from by omega]
        exact hc

theorem Own.form {α : Type} {K : Kd α} {e : TypeId} {S : Nat → Prop} {w : World} {v : Value} {xs : List α} (h : Own K e S w v xs) : ∃ A n c, v = .slice A n c := by
  obtain ⟨A, c, h, _⟩ := h.slice; exact ⟨A, _, c, h⟩
theorem Sl.form {α : Type} {K : Kd α} {S : Nat → Prop} {w : World} {v : Value} {xs : List α} (h : Sl K S w v xs) : ∃ A n c, v = .slice A n c := by
  obtain ⟨A, c, h, _⟩ := h.slice; exact ⟨A, _, c, h⟩

theorem Own.empty {α : Type} (K : Kd α) (e : TypeId) {S : Nat → Prop} (w : World) (hS : S w.heap.size) : Own K e S (w.alloc (.cells #[] e)) (.slice (some ⟨w.heap.size, 0, none⟩) 0 0) [] :=
  ⟨[], World.ownsRow_made w #[] 0 (Nat.zero_le _) (by decide) (by simp), fun g hg => by simp [Value.ownBlock] at hg; subst hg; exact hS, fun i x hx => by simp at hx⟩
/-- The first elements of a slice of the call's own. -/
theorem Own.take {α : Type} {K : Kd α} {e : TypeId} {S : Nat → Prop} {w : World} {A : Option Addr} {n c m : Nat} {xs : List α} (h : Own K e S w (.slice A n c) xs) (hm : m ≤ xs.length) : Own K e S w (.slice A m c) (xs.take m) := by
  have hob : (Value.slice A m c).ownBlock = (Value.slice A n c).ownBlock := by cases A <;> rfl
  obtain ⟨cells, h1, h2, h3⟩ := h
  have hlm : (xs.take m).length = m := by simp; omega
  refine ⟨cells.take (m * K.size), ⟨?_, ?_⟩, ?_, ?_⟩
  · have h' : m * K.size ≤ xs.length * K.size := Nat.mul_le_mul_right _ hm
    rw [List.length_take, h1.1, hlm]; omega
  · rcases h1.2 with ⟨he, hz⟩ | ⟨g, cap, cur, he, hb, hg, hcap, hmax, hsz, htake⟩
    · cases he
      obtain rfl : m = 0 := by omega
      exact .inl ⟨rfl, hlm⟩
    · cases he
      refine .inr ⟨g, c, cur, by rw [hlm], hb, hg, by omega, hmax, hsz, ?_⟩
      have h' : m * K.size ≤ xs.length * K.size := Nat.mul_le_mul_right _ hm
      rw [hlm, ← htake, List.take_take, Nat.min_eq_left h']
  · intro g hg
    exact h2 g (hob ▸ hg)
  · intro i x hx
    rw [List.getElem?_take] at hx
    split at hx
    case isFalse => cases hx
    rename_i hi
    obtain ⟨cs, hr, hu⟩ := h3 i x hx
    have hcl := K.len hr
    refine ⟨cs, K.mono (fun k hk => ⟨hk.1, hob ▸ hk.2⟩) hr, fun j u hj => ?_⟩
    have hj' := (List.getElem?_eq_some_iff.1 hj).1
    rw [List.getElem?_take, if_pos]
    · exact hu j u hj
    · have : (i + 1) * K.size ≤ m * K.size := Nat.mul_le_mul_right _ hi
      rw [Nat.succ_mul] at this; omega

/-- What a program's table says of a slice's type and its elements'. -/
structure ElemT (P : Program) {α : Type} (K : Kd α) (t e : TypeId) (bytes : Nat) : Prop where
  under : P.underlying t = some (.slice e)
  pos : 0 < K.size
  info : ∃ i z, P.info? e = some i ∧ i.zero = some z ∧ i.size = K.size ∧ i.bytes = bytes ∧ z.cells.size = K.size

theorem ElemT.mk' {P : Program} {α : Type} {K : Kd α} {t e : TypeId} {bytes : Nat} (z : Value) (hu : P.underlying t = some (.slice e)) (hpos : 0 < K.size)
    (hi : (P.info? e).map (fun i => (i.zero, i.size, i.bytes)) = some (some z, K.size, bytes)) (hz : z.cells.size = K.size) : ElemT P K t e bytes := by
  obtain ⟨i, h1, h2, h3, h4⟩ := info_parts hi
  exact ⟨hu, hpos, i, z, h1, h2, h3, h4, hz⟩

section
variable {P : Program} {α : Type} {K : Kd α} {t e : TypeId} {bytes : Nat} (E : ElemT P K t e bytes) {ops : Array Oper} {rest : List Oper} {o : Oper} {a : Act} {Q : Exit → Act → World → Prop}
include E

/-- append of a slice that reads as a list, to a slice of the call's own. -/
theorem wpList_push (hgd : o.guard = none) {s x : Operand} (ho : o.op = .call { callee := .builtin .append, args := #[s, x], argTypes := #[t, t] }) {w : World}
    {S T : Nat → Prop} {v xv : Value} {xs ys : List α} (hs : a.eval s = v) (hx : a.eval x = xv) (h : Own K e S w v xs) (hy : Sl K T w xv ys) (hE : ∀ y cs, K.rd T w y cs → K.rd (fun k => S k ∧ some k ≠ v.ownBlock) w y cs)
    (hnew : ∀ k, w.heap.size ≤ k → S k) (hl : (xs.length + ys.length) * bytes ≤ 140737488355328) (hm : xs.length + ys.length ≤ 9223372036854775807)
    (next : ∀ v' w', Own K e S w' v' (xs ++ ys) → Fr (fun k => some k ≠ v.ownBlock) w w' → (v'.ownBlock = v.ownBlock ∨ ∃ b, v'.ownBlock = some b ∧ w.heap.size ≤ b) → wpList P ops Q rest (a.put o.dst v') w') :
    wpList P ops Q (o :: rest) a w := by
  obtain ⟨i, z, hi, hz, hsize, hby, hzs⟩ := E.info
  refine wpList_plain hgd fun K' hK => ?_
  obtain ⟨v', w', hrun, h1, h2, h3⟩ := run_push (P := P) K E.pos t o.type e i z bytes E.under hi hz hsize hby hzs h hy hE hnew hl hm
  unfold Oper.wp
  simp [execOp, ho, resolve, invoke, builtin, hs, hx, hrun, Result.andThen]
  exact hK _ _ (next v' w' h1 (Fr.of_grown h2) h3)

/-- append of one element: the world is the one behind the one-element slice's making. -/
theorem wpList_push1 (hgd : o.guard = none) {s x : Operand} (ho : o.op = .call { callee := .builtin .append, args := #[s, x], argTypes := #[t, t] }) {w : World}
    {S T : Nat → Prop} {v : Value} {xs : List α} {y : α} {cs : List Value} (hs : a.eval s = v) (hx : a.eval x = .slice (some ⟨w.heap.size, 0, none⟩) 1 1) (h : Own K e S w v xs) (hy : K.rd T w y cs)
    (hT : ∀ k, T k → k < w.heap.size → S k ∧ some k ≠ v.ownBlock)
    (hnew : ∀ k, w.heap.size ≤ k → S k) (hl : (xs.length + 1) * bytes ≤ 140737488355328) (hm : xs.length + 1 ≤ 9223372036854775807)
    (next : ∀ v' w', Own K e S w' v' (xs ++ [y]) → Fr (fun k => some k ≠ v.ownBlock) w w' → (v'.ownBlock = v.ownBlock ∨ ∃ b, v'.ownBlock = some b ∧ w.heap.size ≤ b) → wpList P ops Q rest (a.put o.dst v') w') :
    wpList P ops Q (o :: rest) a (w.alloc (.cells cs.toArray e)) := by
  have hlt := h.lt
  have hf : ∀ S, Fr S w (w.alloc (.cells cs.toArray e)) := fun S => (Fr.refl S w).alloc _
  have hy' : K.rd (fun k => T k ∧ k < w.heap.size) (w.alloc (.cells cs.toArray e)) y cs := K.fr (K.bd hy) (hf _)
  have hsl : Sl K (fun k => (T k ∧ k < w.heap.size) ∨ k = w.heap.size) (w.alloc (.cells cs.toArray e)) (.slice (some ⟨w.heap.size, 0, none⟩) 1 1) [y] :=
    ⟨_, 1, rfl, Nat.le_refl _, by omega, fun h => by simp at h, fun _ => ⟨_, rfl, .inr rfl, fun i x hx => by
      cases i with
      | succ i => simp at hx
      | zero =>
        simp at hx; subst hx
        refine ⟨cs, K.mono (fun k hk => .inl hk) hy', fun j u hj => ?_⟩
        rw [addr_lit, World.cell?_alloc_at _ _ _ _ rfl]
        simpa using hj⟩⟩
  refine wpList_push E hgd ho hs hx (h.fr (hf _)) hsl ?_ (fun k hk => hnew k (by simp at hk; omega)) (by simpa using hl) (by simpa using hm) ?_
  · intro y' cs' hr
    refine K.mono (fun k hk => ?_) hr
    rcases hk with hk | rfl
    · exact hT k hk.1 hk.2
    · exact ⟨hnew _ (Nat.le_refl _), fun e => by have := hlt _ e.symm; omega⟩
  · intro v' w' h1 h2 h3
    refine next v' w' h1 ((hf _).trans h2) ?_
    rcases h3 with q | ⟨b, q, hb⟩
    · exact .inl q
    · exact .inr ⟨b, q, by simp at hb; omega⟩
end

/-- Behind an append to a slice of the call's own: what lay ahead of the call lies as it lay. -/
theorem Fr.push {α : Type} {K : Kd α} {e : TypeId} {S R : Nat → Prop} {w wr w1 : World} {v : Value} {xs : List α} (h : Fr R w wr) (ho : Own K e S wr v xs) (hf : Fr (fun k => some k ≠ v.ownBlock) wr w1)
    (hd : ∀ k, k < w.heap.size → R k → ¬ S k) : Fr R w w1 :=
  h.comp hf fun k hk hr => ⟨hr, fun e => hd k hk hr (ho.in_ k e.symm)⟩

/-! ### Numbers of machine words -/

theorem wrap_u64_lt {n : Int} (h0 : 0 ≤ n) (h1 : n < 18446744073709551616) : IntKind.u64.wrap n = n := by rw [IntKind.wrap_u64]; omega
theorem wraps_u64 (n : Int) (h0 : 0 ≤ n) (h1 : n < 2 ^ 64) : IntKind.u64.wrap n = n := wrap_u64_lt h0 (by simpa using h1)
theorem mask32 {x : Int} (h0 : 0 ≤ x) (h1 : x < 18446744073709551616) : bits .and .u64 x 4294967295 = x % 4294967296 :=
  bits_mask .u64 64 (by decide) wraps_u64 32 (by decide) x h0 (by simpa using h1)
theorem join32 {x y : Int} (h0 : 0 ≤ x) (h1 : x < 4294967296) (h2 : 0 ≤ y) (h3 : y < 4294967296) : bits .or .u64 (x * 4294967296) y = x * 4294967296 + y :=
  bits_join .u64 64 (by decide) wraps_u64 32 _ _ (by omega) (by simp) (by have : x * 4294967296 < 18446744073709551616 := by omega
                                                                          simpa using this) h2 (by simpa using h3) (by have : y < 18446744073709551616 := by omega
                                                                                                                       simpa using this)
end Go.Proofs.YtlppcfeimpcbjaaGreat


/- Package nat: the functions that read: top, limb. -/
namespace Go.Proofs.YtlppcfeimpcbjaaGreat
open Go.RowKit

/-- 2 to the 32: what a limb is below. -/
def LB : Nat := 4294967296
theorem LB2 : 2 ≤ LB := by decide
theorem LBpos : 0 < LB := by decide
/-- limbs -/
def Lm : Kd Nat := Kd.nat .u32 LB
theorem Lm_pos : 0 < Lm.size := by decide
/-- what limbs come to -/
abbrev val (xs : List Nat) : Nat := ofB LB xs
theorem val_dg (n : Nat) : val (dg LB n) = n := ofB_dg LB2 n

theorem Kd.nat_cell {k : IntKind} {b : Nat} {S : Nat → Prop} {w : World} {xs : List Nat} {A : Option Addr} {c : Nat} (h : Sl (Kd.nat k b) S w (.slice A xs.length c) xs) {i : Nat} (hi : i < xs.length) :
    ∃ ad, A = some ad ∧ w.cell? (ad.add i) = some (.int k ((xs[i] : Nat) : Int)) ∧ xs[i] < b := by
  obtain ⟨A', c', he, h1, h2, h3, h4⟩ := h
  cases he
  obtain ⟨ad, rfl, _, hc⟩ := h4 (by omega)
  obtain ⟨cs, ⟨rfl, hlt⟩, hu⟩ := hc i xs[i] (by simp [hi])
  refine ⟨ad, rfl, ?_, hlt⟩
  have := hu 0 _ rfl
  simpa [Kd.nat] using this
theorem Kd.nat_all {k : IntKind} {b : Nat} {S : Nat → Prop} {w : World} {xs : List Nat} {v : Value} (h : Sl (Kd.nat k b) S w v xs) : ∀ d ∈ xs, d < b := by
  intro d hd
  obtain ⟨i, hi, rfl⟩ := List.mem_iff_getElem.1 hd
  obtain ⟨A', c', he, h1, h2, h3, h4⟩ := h
  obtain ⟨ad, rfl, _, hc⟩ := h4 (by omega)
  obtain ⟨cs, ⟨rfl, hlt⟩, hu⟩ := hc i xs[i] (by simp [hi])
  exact hlt

set_option maxHeartbeats 400000 in
theorem top_calls {S : Nat → Prop} (w : World) (v : Value) (xs : List Nat) (h : Sl Lm S w v xs) :
    Calls Tryz.prog 149 #[v] w fun e w' => e = .returned (.int .i64 ((dg LB (val xs)).length : Int)) ∧ w' = w := by
  obtain ⟨A, c, rfl, hcap, hmax, hlen⟩ := h.slice
  have hd := Kd.nat_all h
  have H := Lib.hid h
  clear h
  go_enter Tryz.func149, Tryz.ntmps149
  go_wp2
  go_loop [3] (fun n => ∃ k : Nat, k ≤ xs.length ∧ n = .int .i64 k ∧ Hid (∀ j, k ≤ j → j < xs.length → xs[j]? = some 0)) (fun n => (intOf n).toNat)
  case atStart => exact ⟨xs.length, Nat.le_refl _, rfl, fun j h1 h2 => by omega⟩
  case round =>
    obtain ⟨k, hk, rfl, hz⟩ := hrel
    by_cases h0 : 0 < k
    · obtain ⟨ad, rfl, hx, _⟩ := Kd.nat_cell H.out (i := k - 1) (by omega)
      by_cases hx0 : xs[k-1]'(by omega) = 0
      · rw [hx0] at hx
        have HX := Lib.hid hx0
        clear hx0
        go_wp2
        go_round
        case rel =>
          refine ⟨k - 1, by omega, by go_num, fun j h1 h2 => ?_⟩
          by_cases e : j = k - 1
          · subst e; rw [List.getElem?_eq_getElem h2, HX.out]
          · exact hz.out j (by omega) h2
        case measure => simp [intOf]; omega
      · have hb : (((xs[k-1]'(by omega) : Nat) : Int) == 0) = false := by simpa using hx0
        have HX := Lib.hid hx0
        clear hx0
        go_wp2
        go_ret
        have ht := (dg_top LB2 hd hk hz.out (fun _ => by rw [List.getElem?_eq_getElem (by omega)]; simpa using HX.out)).2
        exact ⟨congrArg (fun n : Nat => Ending.returned (.int .i64 (n : Int))) ht, rfl⟩
    · go_wp2
      go_ret
      have ht := (dg_top LB2 hd hk hz.out (fun h => absurd h h0)).2
      exact ⟨congrArg (fun n : Nat => Ending.returned (.int .i64 (n : Int))) ht, rfl⟩

/-- the limb at a place -/
def limbAt (xs : List Nat) (i : Int) : Nat := if i < 0 then 0 else xs.getD i.toNat 0

set_option maxHeartbeats 400000 in
theorem limb_calls {S : Nat → Prop} (w : World) (v : Value) (xs : List Nat) (i : Int) (h : Sl Lm S w v xs) :
    Calls Tryz.prog 147 #[v, .int .i64 i] w fun e w' => e = .returned (.int .u64 (limbAt xs i : Int)) ∧ w' = w := by
  obtain ⟨A, c, rfl, hcap, hmax, hlen⟩ := h.slice
  have H := Lib.hid h
  clear h
  by_cases h0 : i < 0
  · go_enter Tryz.func147, Tryz.ntmps147
    go_wp2
    go_ret
    exact ⟨by simp [limbAt, h0], rfl⟩
  · obtain ⟨n, rfl⟩ := Int.eq_ofNat_of_zero_le (Int.not_lt.1 h0)
    by_cases h1 : n < xs.length
    · obtain ⟨ad, rfl, hx, hlt⟩ := Kd.nat_cell H.out (i := n) h1
      have hlt' : xs[n] < 4294967296 := hlt
      have hgd : limbAt xs (n : Int) = xs[n] := by unfold limbAt; rw [if_neg (by omega), Int.toNat_natCast, List.getD_eq_getElem?_getD, List.getElem?_eq_getElem h1]; rfl
      have HG := Lib.hid hgd
      clear hgd hlt
      go_enter Tryz.func147, Tryz.ntmps147
      go_wp2
      go_ret
      exact ⟨congrArg (fun n : Nat => Ending.returned (.int .u64 (n : Int))) HG.out.symm, rfl⟩
    · go_enter Tryz.func147, Tryz.ntmps147
      go_wp2
      go_ret
      have hgd : limbAt xs (n : Int) = 0 := by unfold limbAt; rw [if_neg (by omega), Int.toNat_natCast, List.getD_eq_getElem?_getD, List.getElem?_eq_none (by omega)]; rfl
      exact ⟨congrArg (fun n : Nat => Ending.returned (.int .u64 (n : Int))) hgd.symm, rfl⟩
end Go.Proofs.YtlppcfeimpcbjaaGreat


/- Package nat: gather: what places have, put together into limbs. -/
namespace Go.Proofs.YtlppcfeimpcbjaaGreat
open Go.RowKit

theorem info_u32 : (Tryz.prog.info? 150).map (fun i => (i.zero, i.size, i.bytes)) = some (some (.int .u32 0), 1, 4) := by kernel_rfl
theorem lmT : ElemT Tryz.prog Lm 52 150 4 := .mk' (.int .u32 0) Tryz.underlying52 (by decide) info_u32 rfl

/-- one cell in memory: a variable that a closure has captured -/
def Box (w : World) (b : Nat) (t : TypeId) (v : Value) : Prop := w.heap[b]? = some (.cells #[v] t (0, 0))
theorem Box.cell {w : World} {b : Nat} {t : TypeId} {v : Value} (h : Box w b t v) : w.cell? ⟨b, 0, none⟩ = some v := cell_of_one h
theorem Box.free {w : World} {b : Nat} {t : TypeId} {v : Value} (h : Box w b t v) : w.frozen? ⟨b, 0, none⟩ = false := free_of_one h
theorem Box.lt {w : World} {b : Nat} {t : TypeId} {v : Value} (h : Box w b t v) : b < w.heap.size := lt_of_block h
theorem Box.fr {w w' : World} {b : Nat} {t : TypeId} {v : Value} {S : Nat → Prop} (h : Box w b t v) (hf : Fr S w w') (hs : S b) : Box w' b t v := hf.obj h hs
theorem Box.set {w : World} {b : Nat} {t : TypeId} {v : Value} (h : Box w b t v) (u : Value) : Box (w.setCell ⟨b, 0, none⟩ u) b t u := one_setCell h
theorem Box.other {w : World} {b : Nat} {t : TypeId} {v : Value} (h : Box w b t v) {p : Addr} (hp : b ≠ p.block) (u : Value) : Box (w.setCell p u) b t v :=
  (Below.heap_setCell w p u b hp).trans h
theorem Box.other' {w : World} {b b' : Nat} {t : TypeId} {v : Value} (h : Box w b t v) (hp : b ≠ b') (u : Value) : Box (w.setCell ⟨b', 0, none⟩ u) b t v := h.other hp u
theorem Fr.setBox {S : Nat → Prop} {a b : World} (h : Fr S a b) {p : Nat} (hp : p < a.heap.size → ¬ S p) (u : Value) : Fr S a (b.setCell ⟨p, 0, none⟩ u) := h.setCell (p := ⟨p, 0, none⟩) hp u
theorem Box.new (w : World) (t : TypeId) (v : Value) : Box (w.alloc (.cells #[v] t)) w.heap.size t v := heap_alloc_new w _
theorem Box.alloc {w : World} {b : Nat} {t : TypeId} {v : Value} (h : Box w b t v) (o : Obj) : Box (w.alloc o) b t v := (Below.heap_alloc w o b h.lt).trans h

set_option maxHeartbeats 400000 in
theorem put_calls (w : World) (x : Nat) (bo bc B : Nat) (hbo : bo < B) (hbc : bc < B) (hne : bo ≠ bc) (hB : B ≤ w.heap.size) (v cv : Value) (ds : List Nat)
    (h1 : Box w bo 52 v) (h2 : Box w bc 170 cv) (ho : Own Lm 150 (fun k => B ≤ k) w v ds) (hl : ds.length ≤ 2199023255552) :
    Calls Tryz.prog 156 #[.int .u64 x, .pointer (some ⟨bo, 0, none⟩), .pointer (some ⟨bc, 0, none⟩)] w fun e w' => e = .returned (.tuple #[]) ∧
      ∃ v', Box w' bo 52 v' ∧ Box w' bc 170 (.int .u64 ((x / LB : Nat) : Int)) ∧ Own Lm 150 (fun k => B ≤ k) w' v' (ds ++ [x % LB]) ∧ Fr (fun k => k < B ∧ k ≠ bo ∧ k ≠ bc) w w' := by
  have hc1 := h1.cell
  have hrd : Lm.rd (fun _ => False) w (x % LB) [.int .u32 ((x : Int) % 4294967296)] := ⟨by simp [LB], Nat.mod_lt _ LBpos⟩
  have HR := Lib.hid hrd
  clear hrd
  go_enter Tryz.func156, Tryz.ntmps156
  go_wp2_with (at_builtin; refine wpList_push1 (v := v) lmT rfl rfl rfl rfl ho HR.out (fun _ h => h.elim) (fun k hk => by omega) (by omega) (by omega) ?_; intro v' w1 hown hfr hat; obtain ⟨A1, n1, c1, rfl⟩ := hown.form; have b1 := h1.fr hfr (fun e => by have := ho.in_ bo e.symm; omega); have b2 := h2.fr hfr (fun e => by have := ho.in_ bc e.symm; omega); have hc2 := b1.cell; have hf2 := b1.free; have hc3 := b2.cell; have hf3 := b2.free)
  go_end0
  refine ⟨rfl, _, (b1.set _).other (p := ⟨bc, 0, none⟩) (by show bo ≠ bc; omega) _, by simpa [LB] using (b2.other (p := ⟨bo, 0, none⟩) (by show bc ≠ bo; omega) _).set (.int .u64 ((x : Int) / 4294967296)), ?_, ?_⟩
  · exact hown.fr (((Fr.refl _ _).setCell (p := ⟨bo, 0, none⟩) (fun _ => by show ¬ B ≤ bo; omega) _).setCell (p := ⟨bc, 0, none⟩) (fun _ => by show ¬ B ≤ bc; omega) _)
  · exact ((hfr.mono fun k hk hk' e => by have := ho.in_ k e.symm; omega).setCell (p := ⟨bo, 0, none⟩) (fun _ h => h.2.1 rfl) _).setCell (p := ⟨bc, 0, none⟩) (fun _ h => h.2.2 rfl) _

/-- What gather may lean on of the function that it is handed: called at the places from 0 on, one behind the other, it answers f's numbers; it turns blocks of St alone, which lie below B. -/
structure At (P : Program) (k : FuncId) (caps : Array Value) (n : Nat) (f : Nat → Nat) (St : Nat → Prop) (B : Nat) (I : Nat → World → Prop) : Prop where
  enter : ∀ (args : Array Value) (w : World), (callFunc k args).run P w = .ok (.enter k args) w
  keep : ∀ i w w', I i w → Fr (fun k => k < B) w w' → I i w'
  call : ∀ i w, i < n → I i w → B ≤ w.heap.size → Calls P k (#[.int .i64 (i : Int)] ++ caps) w fun e w' => e = .returned (.int .u64 (f i : Int)) ∧ I (i + 1) w' ∧ Fr (fun k => ¬ St k) w w'
  low : ∀ k, St k → k < B
  small : ∀ i, i < n → f i ≤ 18446744069414584320

/-- How the memory lies between two rounds. -/
structure Gath (w : World) (St : Nat → Prop) (J : World → Prop) (v : Value) (ds : List Nat) (c : Nat) (wr : World) : Prop where
  size : w.heap.size + 2 ≤ wr.heap.size
  bo : Box wr w.heap.size 52 v
  bc : Box wr (w.heap.size + 1) 170 (.int .u64 (c : Int))
  own : Own Lm 150 (fun k => w.heap.size + 2 ≤ k) wr v ds
  fr : Fr (fun k => k < w.heap.size ∧ ¬ St k) w wr
  inv : J wr

/-- Behind a call of the function that was handed in. -/
theorem Gath.called {P : Program} {k : FuncId} {caps : Array Value} {n : Nat} {f : Nat → Nat} {w : World} {St : Nat → Prop} {I : Nat → World → Prop} (H : At P k caps n f St w.heap.size I) {v : Value} {ds : List Nat} {c : Nat} {wr w1 : World} {j j' : Nat}
    (h : Gath w St (I j) v ds c wr) (h1 : I j' w1) (hf : Fr (fun k => ¬ St k) wr w1) : Gath w St (I j') v ds c w1 where
  size := Nat.le_trans h.size hf.size
  bo := h.bo.fr hf fun hs => by have := H.low _ hs; omega
  bc := h.bc.fr hf fun hs => by have := H.low _ hs; omega
  own := h.own.fr (hf.mono fun k _ hk hs => by have := H.low _ hs; omega)
  fr := h.fr.comp hf fun _ _ hk => ⟨hk, hk.2⟩
  inv := h1
theorem Gath.drew {w : World} {St : Nat → Prop} {I : Nat → World → Prop} {P : Program} {k : FuncId} {caps : Array Value} {n : Nat} {f : Nat → Nat} (H : At P k caps n f St w.heap.size I) {v : Value} {ds : List Nat} {c : Nat} {wr : World} {j : Nat}
    (h : Gath w St (I j) v ds c wr) : Gath w St (I j) v ds c wr.drew := ⟨h.size, h.bo, h.bc, h.own.fr (Fr.refl _ _).drew, h.fr.drew, H.keep _ _ _ h.inv (Fr.refl _ _).drew⟩
/-- Behind a put. -/
theorem Gath.put {P : Program} {k : FuncId} {caps : Array Value} {n : Nat} {f : Nat → Nat} {w : World} {St : Nat → Prop} {I : Nat → World → Prop} (H : At P k caps n f St w.heap.size I) {v v' : Value} {ds : List Nat} {c x : Nat} {wr w1 : World} {j : Nat}
    (h : Gath w St (I j) v ds c wr) (h1 : Box w1 w.heap.size 52 v') (h2 : Box w1 (w.heap.size + 1) 170 (.int .u64 ((x / LB : Nat) : Int)))
    (h3 : Own Lm 150 (fun k => w.heap.size + 2 ≤ k) w1 v' (ds ++ [x % LB])) (h4 : Fr (fun k => k < w.heap.size + 2 ∧ k ≠ w.heap.size ∧ k ≠ w.heap.size + 1) wr w1) :
    Gath w St (I j) v' (ds ++ [x % LB]) (x / LB) w1 where
  size := Nat.le_trans h.size h4.size
  bo := h1
  bc := h2
  own := h3
  fr := h.fr.comp h4 fun k hk hr => ⟨hr, by omega⟩
  inv := H.keep _ _ _ h.inv (h4.mono fun k _ hk => by omega)

/-- What has been put, and the carry, come to what was asked for. -/
def GN (f : Nat → Nat) (j : Nat) (ds : List Nat) (c : Nat) : Prop := ds.length = j ∧ c < LB ∧ (∀ d ∈ ds, d < LB) ∧ ofB LB ds + LB ^ j * c = sumTo LB f j
theorem GN.step {f : Nat → Nat} {j : Nat} {ds : List Nat} {c : Nat} (h : GN f j ds c) (hf : f j ≤ 18446744069414584320) : f j + c < 18446744073709551616 ∧ GN f (j + 1) (ds ++ [(f j + c) % LB]) ((f j + c) / LB) := by
  obtain ⟨h1, h2, h3, h4⟩ := h
  have h2' : c < 4294967296 := h2
  have hs : f j + c < 18446744073709551616 := by omega
  refine ⟨hs, by simp [h1], ?_, ?_, ?_⟩
  · exact Nat.div_lt_of_lt_mul (by unfold LB; omega)
  · intro d hd
    rcases List.mem_append.1 hd with hd | hd
    · exact h3 d hd
    · simp at hd; subst hd; exact Nat.mod_lt _ LBpos
  · rw [ofB_snoc, sumTo, h1, ← h4, Nat.pow_succ, Nat.add_assoc, Nat.add_assoc, Nat.mul_assoc, ← Nat.mul_add, ← Nat.mul_add, Nat.mod_add_div, Nat.add_comm c]
/-- The same of the carry that is left. -/
def GC (V : Nat) (ds : List Nat) (c : Nat) : Prop := (∀ d ∈ ds, d < LB) ∧ ofB LB ds + LB ^ ds.length * c = V
theorem GC.step {V : Nat} {ds : List Nat} {c : Nat} (h : GC V ds c) : GC V (ds ++ [c % LB]) (c / LB) := by
  refine ⟨fun d hd => ?_, ?_⟩
  · rcases List.mem_append.1 hd with hd | hd
    · exact h.1 d hd
    · simp at hd; subst hd; exact Nat.mod_lt _ LBpos
  · rw [ofB_snoc, ← h.2, List.length_append, List.length_singleton, Nat.pow_succ, Nat.add_assoc, Nat.mul_assoc, ← Nat.mul_add, Nat.mod_add_div]

set_option maxHeartbeats 1000000 in
theorem gather_calls (w : World) (n : Nat) (hn : n ≤ 1099511627000) (k : FuncId) (caps : Array Value) (f : Nat → Nat) (St : Nat → Prop) (I : Nat → World → Prop)
    (H : At Tryz.prog k caps n f St w.heap.size I) (h0 : I 0 w) :
    Calls Tryz.prog 145 #[.int .i64 n, .func (.func k) #[] caps] w fun e w' => ∃ v, e = .returned v ∧ Own Lm 150 (fun k => w.heap.size ≤ k) w' v (dg LB (sumTo LB f n)) ∧ Fr (fun k => k < w.heap.size ∧ ¬ St k) w w' := by
  go_enter Tryz.func145, Tryz.ntmps145
  go_wp2_with fail
  go_loopw [11] (fun i wr => ∃ (j : Nat) (v : Value) (ds : List Nat) (c : Nat), j ≤ n ∧ i = .int .i64 j ∧ Gath w St (I j) v ds c wr ∧ GN f j ds c) (fun i _ => n - (intOf i).toNat)
  case atStart =>
    refine ⟨0, .slice none 0 0, [], 0, Nat.zero_le _, rfl, ⟨by simp, (Box.new _ _ _).alloc _, by simpa using Box.new (w.alloc _) 170 _, Own.nil _ _ _ _, ((Fr.refl _ _).alloc _).alloc _, H.keep _ _ _ h0 (((Fr.refl _ _).alloc _).alloc _)⟩, rfl, LBpos, by simp, rfl⟩
  case round =>
    obtain ⟨j, v, ds, c, hj, rfl, hG, hN⟩ := hrel
    by_cases hlt : j < n
    · have hstep := hN.step (H.small j hlt)
      obtain ⟨x, hx⟩ : ∃ x, x = f j + c := ⟨_, rfl⟩
      rw [← hx] at hstep
      obtain ⟨hsum, hN1⟩ := hstep
      have hwrap : IntKind.u64.wrap ((f j : Int) + (c : Int)) = (x : Int) := by rw [← Int.natCast_add, ← hx]; exact Int.emod_eq_of_lt (by omega) (by simp [IntKind.bits]; omega)
      have HX := Lib.hid hx
      clear hx
      have hG1 := hG.drew H
      have hcell := hG1.bc.cell
      have hsz : w.heap.size ≤ wr.drew.heap.size := by have := hG1.size; omega
      have hk := H.enter
      go_wp2_with fail
      go_region_with (first
        | ((with_reducible refine (H.call j _ hlt hG1.inv hsz).mono ?_); rintro e w2 ⟨rfl, hi, hfr⟩; have hG2 := hG1.called H hi hfr; have hcell2 := hG2.bc.cell)
        | ((with_reducible refine (put_calls w2 x w.heap.size (w.heap.size + 1) (w.heap.size + 2) (by omega) (by omega) (by omega) hG2.size v _ ds hG2.bo hG2.bc hG2.own ?_).mono ?_); exact Nat.le_trans (Nat.le_of_eq hN.1) (by omega); rintro e w3 ⟨rfl, v', b1, b2, o1, f1⟩; have hG3 := hG2.put H b1 b2 o1 f1))
      all_goals
        go_wp2_with fail
        go_roundw
        case rel => exact ⟨j + 1, v', _, _, by omega, by go_num, hG3, hN1⟩
        case measure => simp [intOf]; omega
    · obtain rfl : j = n := by omega
      have hC : GC (sumTo LB f j) ds c := ⟨hN.2.2.1, by rw [hN.1]; exact hN.2.2.2⟩
      have hlen : ds.length + c ≤ 1099511627000 + 4294967296 := by have h1 := hN.1; have h2 : c < 4294967296 := hN.2.1; omega
      clear hN
      go_wp2_with fail
      go_loopg [22] c (fun g _ wr => ∃ (v : Value) (ds : List Nat), Gath w St (I j) v ds g wr ∧ GC (sumTo LB f j) ds g ∧ ds.length + g ≤ 1099511627000 + 4294967296)
      case atStart => exact ⟨v, ds, hG, hC, hlen⟩
      case round =>
        clear hG hC hlen
        obtain ⟨v, ds, hG, hC, hlen⟩ := hrel
        have hcell := hG.bc.cell
        by_cases h0 : 0 < gk
        · go_wp2_with ((with_reducible refine (put_calls wr gk w.heap.size (w.heap.size + 1) (w.heap.size + 2) (by omega) (by omega) (by omega) hG.size v _ ds hG.bo hG.bc hG.own (by omega)).mono ?_); rintro e w3 ⟨rfl, v', b1, b2, o1, f1⟩)
          have hG3 := hG.put H b1 b2 o1 f1
          have hdv : gk / LB < gk := Nat.div_lt_self h0 (by decide)
          go_roundg (gk / LB)
          case rel => exact ⟨v', _, hG3, hC.step, by simp; omega⟩
          case measure => exact hdv
        · obtain rfl : gk = 0 := by omega
          obtain ⟨A, cc, rfl, hcap, hmax, hdl⟩ := hG.own.slice
          have hc5 := hG.bo.cell
          have hV : ofB LB ds = sumTo LB f j := by have := hC.2; simpa using this
          have hdl2 : (dg LB (ofB LB ds)).length ≤ ds.length := dg_len_le LB2 (ofB_lt hC.1)
          have hle : ((dg LB (ofB LB ds)).length : Int) ≤ (cc : Int) := by omega
          have HV := Lib.hid hV
          clear hV
          go_wp2_with fail
          go_quiet ((go_at_call 149; exact Calls.quiet_of_same (top_calls _ _ _ (hG.own.sl.fr ((Fr.refl _ _).drewN _)))))
          go_wp2_with fail
          go_ret
          have htk : ds.take (dg LB (ofB LB ds)).length = dg LB (ofB LB ds) := by
            have h1 := ofB_dg LB2 (ofB LB ds)
            have h2 := dg_top' LB2 hC.1
            exact h2.symm
          have ho := (hG.own.take hdl2).mono (T := fun k => w.heap.size ≤ k) (fun k hk => by omega)
          rw [htk, HV.out] at ho
          refine ⟨_, rfl, ?_, ?_⟩
          · rw [show dg LB (val ds) = dg LB (sumTo LB f j) from by rw [← HV.out]]
            exact ho.fr ((Fr.refl _ _).drewN _)
          · exact hG.fr.drewN _
end Go.Proofs.YtlppcfeimpcbjaaGreat


/- Package nat: Of, Uint, Trim, Add, row, Mul. -/
namespace Go.Proofs.YtlppcfeimpcbjaaGreat
open Go.RowKit

theorem limb_quiet {S : Nat → Prop} (w : World) (n : Nat) (v : Value) (xs : List Nat) (i : Int) (h : Sl Lm S w v xs) :
    Calls Tryz.prog 147 #[v, .int .i64 i] (w.drewN n) fun e w'' => e = .returned (.int .u64 (limbAt xs i : Int)) ∧ ∃ m, w'' = w.drewN m :=
  Calls.quiet_of_same (limb_calls _ v xs i (h.fr ((Fr.refl _ _).drewN _)))
theorem limbAt_lt {xs : List Nat} (h : ∀ d ∈ xs, d < LB) (i : Int) : limbAt xs i < 4294967296 := by
  unfold limbAt
  split
  · decide
  · rw [List.getD_eq_getElem?_getD]
    cases hx : xs[i.toNat]? with
    | none => decide
    | some d => exact h d (List.mem_of_getElem? hx)
theorem limbAt_nat (xs : List Nat) (i : Nat) : limbAt xs (i : Int) = xs.getD i 0 := by unfold limbAt; rw [if_neg (by omega), Int.toNat_natCast]

set_option maxHeartbeats 400000 in
theorem add1_calls {S T : Nat → Prop} (w : World) (i : Int) (ba bb : Nat) (va vb : Value) (xs ys : List Nat) (ha : Sl Lm S w va xs) (hb : Sl Lm T w vb ys) (h1 : Box w ba 52 va) (h2 : Box w bb 52 vb) :
    Calls Tryz.prog 146 #[.int .i64 i, .pointer (some ⟨ba, 0, none⟩), .pointer (some ⟨bb, 0, none⟩)] w fun e w' => e = .returned (.int .u64 ((limbAt xs i + limbAt ys i : Nat) : Int)) ∧ ∃ m, w' = w.drewN m := by
  have c1 := h1.cell
  have c2 := h2.cell
  have l1 := limbAt_lt (Kd.nat_all ha) i
  have l2 := limbAt_lt (Kd.nat_all hb) i
  have hwrap : IntKind.u64.wrap ((limbAt xs i : Int) + (limbAt ys i : Int)) = (limbAt xs i : Int) + (limbAt ys i : Int) := Int.emod_eq_of_lt (by omega) (by simp [IntKind.bits]; omega)
  go_enter Tryz.func146, Tryz.ntmps146
  go_wp2_with fail
  go_quiet (first | (with_reducible exact limb_quiet _ _ va xs _ ha) | (with_reducible exact limb_quiet _ _ vb ys _ hb))
  go_wp2_with fail
  go_ret
  exact ⟨by rw [Int.natCast_add]; rfl, _, rfl⟩

theorem enter_of {P : Program} {k : FuncId} {fn : Func} (hf : P.funcs[k]? = some fn) (hn : (fn.name == "runtime.NumGoroutine") = false) (hb : fn.body.isNone = false) (args : Array Value) (w : World) :
    (callFunc k args).run P w = .ok (.enter k args) w := by
  have hn' : ¬ fn.name = "runtime.NumGoroutine" := by simpa using hn
  have hb' : ¬ fn.body = none := by intro e; rw [e] at hb; simp at hb
  simp [callFunc, hf, hn', hb']

/-- The same memory, read from a call's beginning on. -/
theorem Sl.low {α : Type} {K : Kd α} {S : Nat → Prop} {w : World} {v : Value} {xs : List α} (hpos : 0 < K.size) (h : Sl K S w v xs) : Sl K (fun k => k < w.heap.size) w v xs := (h.bd hpos).mono fun _ hk => hk.2

theorem add_at (B ba bb : Nat) (va vb : Value) (xs ys : List Nat) (n : Nat) (hx : ∀ d ∈ xs, d < LB) (hy : ∀ d ∈ ys, d < LB) : At Tryz.prog 146 #[.pointer (some ⟨ba, 0, none⟩), .pointer (some ⟨bb, 0, none⟩)] n (fun i => xs.getD i 0 + ys.getD i 0) (fun _ => False) B
    (fun _ w => (Sl Lm (fun k => k < B) w va xs ∧ Sl Lm (fun k => k < B) w vb ys) ∧ (Box w ba 52 va ∧ Box w bb 52 vb) ∧ ba < B ∧ bb < B) where
  enter := enter_of Tryz.func146 (by decide) rfl
  keep := by
    rintro i w w' ⟨⟨h1, h2⟩, ⟨h3, h4⟩, h5, h6⟩ hf
    exact ⟨⟨h1.fr hf, h2.fr hf⟩, ⟨h3.fr hf h5, h4.fr hf h6⟩, h5, h6⟩
  call := by
    rintro i w hi ⟨⟨h1, h2⟩, ⟨h3, h4⟩, h5, h6⟩ hB
    refine (add1_calls w i ba bb va vb xs ys h1 h2 h3 h4).mono ?_
    rintro e w' ⟨rfl, m, rfl⟩
    have hf : ∀ S, Fr S w (w.drewN m) := fun S => (Fr.refl S w).drewN m
    exact ⟨by rw [limbAt_nat, limbAt_nat], ⟨⟨h1.fr (hf _), h2.fr (hf _)⟩, ⟨h3.fr (hf (fun _ => True)) trivial, h4.fr (hf (fun _ => True)) trivial⟩, h5, h6⟩, hf _⟩
  low := fun _ h => h.elim
  small := by
    intro i hi
    have h1 := limbAt_lt hx i
    have h2 := limbAt_lt hy i
    rw [limbAt_nat] at h1 h2
    omega

set_option maxHeartbeats 400000 in
theorem add_calls {S T : Nat → Prop} (w : World) (va vb : Value) (xs ys : List Nat) (ha : Sl Lm S w va xs) (hb : Sl Lm T w vb ys) (hxl : xs.length ≤ 1099511627000) (hyl : ys.length ≤ 1099511627000) :
    Calls Tryz.prog 128 #[va, vb] w fun e w' => ∃ v, e = .returned v ∧ Own Lm 150 (fun k => w.heap.size ≤ k) w' v (dg LB (val xs + val ys)) ∧ Fr (fun k => k < w.heap.size) w w' := by
  obtain ⟨A, c, rfl, _, _, hlx⟩ := ha.slice
  obtain ⟨A', c', rfl, _, _, hly⟩ := hb.slice
  have hxd := Kd.nat_all ha
  have hyd := Kd.nat_all hb
  have HA := Lib.hid ha
  have HB := Lib.hid hb
  clear ha hb
  by_cases hlt : xs.length < ys.length
  all_goals
    go_enter Tryz.func128, Tryz.ntmps128
    go_wp2_with fail
    have hf := fun R => ((Fr.refl R w).alloc (.cells #[.slice A xs.length c] 52)).alloc (.cells #[.slice A' ys.length c'] 52)
    refine (gather_calls _ _ (by omega) _ _ _ _ _ (add_at _ w.heap.size (w.heap.size + 1) (.slice A xs.length c) (.slice A' ys.length c') xs ys _ hxd hyd)
      ⟨⟨HA.out.up Lm_pos (by simp; omega) (hf _), HB.out.up Lm_pos (by simp; omega) (hf _)⟩, ⟨(Box.new _ _ _).alloc _, by simpa using Box.new (w.alloc _) 52 _⟩, by simp; omega, by simp⟩).mono ?_
    rintro e w1 ⟨v, rfl, ho, hfr⟩
    go_wp2_with fail
    go_ret
    refine ⟨_, rfl, ?_, (hf _).comp hfr fun k hk _ => ⟨hk, by simp; omega, id⟩⟩
    rw [sumTo_add, sumTo_all _ _ _ (by omega), sumTo_all _ _ _ (by omega)] at ho
    exact ho.mono fun k hk => by simp at hk; omega
end Go.Proofs.YtlppcfeimpcbjaaGreat


/- Package nat: Of, row, Mul. -/
namespace Go.Proofs.YtlppcfeimpcbjaaGreat
open Go.RowKit

set_option maxHeartbeats 400000 in
theorem of1_calls (w : World) (i : Nat) (hi : i < 2) (b : Nat) (n : Nat) (hn : n < 18446744073709551616) (h : Box w b 170 (.int .u64 n)) :
    Calls Tryz.prog 153 #[.int .i64 i, .pointer (some ⟨b, 0, none⟩)] w fun e w' => e = .returned (.int .u64 ((n / LB ^ i % LB : Nat) : Int)) ∧ w' = w := by
  have c1 := h.cell
  obtain rfl | rfl : i = 0 ∨ i = 1 := by omega
  all_goals
    go_enter Tryz.func153, Tryz.ntmps153
    go_wp2_with fail
    rw [mask32 (by omega) (by omega)]
    go_ret
    exact ⟨by simp [LB], rfl⟩

set_option maxHeartbeats 400000 in
theorem row1_calls {S : Nat → Prop} (w : World) (i up : Nat) (bu ba bm bc : Nat) (va : Value) (xs : List Nat) (m c : Nat) (hm : m < LB) (hc : c < LB) (ha : Sl Lm S w va xs)
    (h1 : Box w bu 3 (.int .i64 up)) (h2 : Box w ba 52 va) (h3 : Box w bm 150 (.int .u32 m)) (h4 : Box w bc 170 (.int .u64 c)) (hi : i < 4611686018427387904) (hu : up ≤ i) :
    Calls Tryz.prog 155 #[.int .i64 i, .pointer (some ⟨bu, 0, none⟩), .pointer (some ⟨ba, 0, none⟩), .pointer (some ⟨bm, 0, none⟩), .pointer (some ⟨bc, 0, none⟩)] w fun e w' =>
      e = .returned (.int .u64 (((xs.getD (i - up) 0 * m + c) % LB : Nat) : Int)) ∧ Box w' bc 170 (.int .u64 (((xs.getD (i - up) 0 * m + c) / LB : Nat) : Int)) ∧ Fr (fun k => k ≠ bc) w w' := by
  have c1 := h1.cell
  have c2 := h2.cell
  have c3 := h3.cell
  have c4 := h4.cell
  have f4 := h4.free
  have hli : limbAt xs ((i : Int) - (up : Int)) = xs.getD (i - up) 0 := by rw [← Int.natCast_sub hu]; exact limbAt_nat _ _
  have hl := limbAt_lt (Kd.nat_all ha) ((i : Int) - (up : Int))
  have hm' : m < 4294967296 := hm
  have hc' : c < 4294967296 := hc
  obtain ⟨L, hL⟩ : ∃ L, L = limbAt xs ((i : Int) - (up : Int)) := ⟨_, rfl⟩
  rw [← hL] at hl hli
  have hp : L * m ≤ 4294967295 * 4294967295 := Nat.mul_le_mul (by omega) (by omega)
  obtain ⟨x, hx⟩ : ∃ x, x = L * m + c := ⟨_, rfl⟩
  have hxl : x < 18446744073709551616 := by omega
  have hw : IntKind.u64.wrap (IntKind.u64.wrap ((L : Int) * (m : Int)) + (c : Int)) = (x : Int) := by
    have e1 : IntKind.u64.wrap ((L : Int) * (m : Int)) = ((L * m : Nat) : Int) := by rw [← Int.natCast_mul]; exact wrap_u64_lt (by omega) (by omega)
    rw [e1, ← Int.natCast_add, ← hx, wrap_u64_lt (by omega) (by omega)]
  have hk : bits .and .u64 (x : Int) 4294967295 = ((x % LB : Nat) : Int) := by rw [mask32 (by omega) (by omega)]; simp [LB]
  have hL' := hL.symm
  rw [← hli, ← hx]
  have HLI := Lib.hid hli
  have HX := Lib.hid hx
  clear hli hx hp hL
  go_enter Tryz.func155, Tryz.ntmps155
  go_wp2_with fail
  go_quiet (first | (with_reducible exact limb_quiet _ _ va xs _ ha))
  go_wp2_with fail
  go_ret
  exact ⟨rfl, by simpa [LB] using Box.set (w := w.drewN _) h4 (.int .u64 ((x : Int) / 4294967296)), ((Fr.refl _ _).drewN _).setCell (fun _ h => h rfl) _⟩

set_option maxHeartbeats 400000 in
theorem row0_calls (w : World) (i up : Nat) (bu ba bm bc : Nat) (h1 : Box w bu 3 (.int .i64 up)) (hu : i < up) :
    Calls Tryz.prog 155 #[.int .i64 i, .pointer (some ⟨bu, 0, none⟩), .pointer (some ⟨ba, 0, none⟩), .pointer (some ⟨bm, 0, none⟩), .pointer (some ⟨bc, 0, none⟩)] w fun e w' =>
      e = .returned (.int .u64 0) ∧ w' = w := by
  have c1 := h1.cell
  go_enter Tryz.func155, Tryz.ntmps155
  go_wp2_with fail
  go_ret
  exact ⟨rfl, rfl⟩

/-- the carries of a number times a limb -/
def rowC (xs : List Nat) (m : Nat) : Nat → Nat
  | 0 => 0
  | k + 1 => (xs.getD k 0 * m + rowC xs m k) / LB
/-- its digits, some places up -/
def rowF (xs : List Nat) (m up i : Nat) : Nat := if i < up then 0 else (xs.getD (i - up) 0 * m + rowC xs m (i - up)) % LB
theorem rowC_lt {xs : List Nat} (hx : ∀ d ∈ xs, d < LB) {m : Nat} (hm : m < LB) (k : Nat) : rowC xs m k < LB := by
  induction k with
  | zero => exact LBpos
  | succ k ih =>
    have h1 := limbAt_lt hx k
    rw [limbAt_nat] at h1
    have hm' : m < 4294967296 := hm
    have ih' : rowC xs m k < 4294967296 := ih
    have hp : xs.getD k 0 * m ≤ 4294967295 * 4294967295 := Nat.mul_le_mul (by omega) (by omega)
    exact Nat.div_lt_of_lt_mul (by show _ < 4294967296 * 4294967296; omega)
theorem row_sum0 (xs : List Nat) (m up : Nat) (n : Nat) (hn : n ≤ up) : sumTo LB (rowF xs m up) n = 0 := by
  induction n with
  | zero => rfl
  | succ n ih => rw [sumTo, ih (by omega), rowF, if_pos (by omega)]; rfl
theorem row_sum (xs : List Nat) (m up : Nat) (k : Nat) : sumTo LB (rowF xs m up) (up + k) + LB ^ (up + k) * rowC xs m k = LB ^ up * (m * ofB LB (xs.take k)) := by
  induction k with
  | zero => simp [row_sum0, rowC, ofB]
  | succ k ih =>
    have hf : rowF xs m up (up + k) = (xs.getD k 0 * m + rowC xs m k) % LB := by rw [rowF, if_neg (by omega), Nat.add_sub_cancel_left]
    have ht : ofB LB (xs.take (k + 1)) = ofB LB (xs.take k) + LB ^ k * xs.getD k 0 := by rw [← sumTo_getD, ← sumTo_getD]; rfl
    rw [← Nat.add_assoc, sumTo, hf, rowC, ht]
    have hd := Nat.mod_add_div (xs.getD k 0 * m + rowC xs m k) LB
    rw [Nat.pow_succ, Nat.add_assoc, Nat.mul_assoc, ← Nat.mul_add, hd, Nat.mul_add, Nat.mul_add, Nat.mul_add, ← ih, Nat.pow_add]
    have e1 : LB ^ up * LB ^ k * (xs.getD k 0 * m) = LB ^ up * (m * (LB ^ k * xs.getD k 0)) := by
      rw [Nat.mul_assoc, Nat.mul_comm (xs.getD k 0) m, Nat.mul_left_comm m]
    omega
theorem row_total {xs : List Nat} (hx : ∀ d ∈ xs, d < LB) {m : Nat} (hm : m < LB) (up : Nat) : sumTo LB (rowF xs m up) (xs.length + up + 1) = val xs * m * LB ^ up := by
  have h := row_sum xs m up (xs.length + 1)
  have hc : rowC xs m (xs.length + 1) = 0 := by
    have h0 := rowC_lt hx hm xs.length
    rw [rowC, List.getD_eq_getElem?_getD, List.getElem?_eq_none (by omega)]
    simp only [Option.getD_none, Nat.zero_mul, Nat.zero_add]
    exact Nat.div_eq_of_lt h0
  rw [hc, Nat.mul_zero, Nat.add_zero, List.take_of_length_le (by omega)] at h
  rw [show xs.length + up + 1 = up + (xs.length + 1) from by omega, h, Nat.mul_comm m, Nat.mul_comm (LB ^ up)]

theorem row_at (B bu ba bm bc : Nat) (va : Value) (xs : List Nat) (m up n : Nat) (hm : m < LB) (hx : ∀ d ∈ xs, d < LB) (hn : n ≤ 4611686018427387904) (hbc : bc < B) :
    At Tryz.prog 155 #[.pointer (some ⟨bu, 0, none⟩), .pointer (some ⟨ba, 0, none⟩), .pointer (some ⟨bm, 0, none⟩), .pointer (some ⟨bc, 0, none⟩)] n (rowF xs m up) (fun k => k = bc) B
    (fun i w => Sl Lm (fun k => k < B ∧ k ≠ bc) w va xs ∧ Box w bu 3 (.int .i64 up) ∧ Box w ba 52 va ∧ Box w bm 150 (.int .u32 m) ∧ Box w bc 170 (.int .u64 (rowC xs m (i - up))) ∧
      (bu < B ∧ bu ≠ bc) ∧ (ba < B ∧ ba ≠ bc) ∧ (bm < B ∧ bm ≠ bc) ∧ bc < B) where
  enter := enter_of Tryz.func155 (by decide) rfl
  keep := by
    rintro i w w' ⟨h1, h2, h3, h4, h5, h6, h7, h8, h9⟩ hf
    exact ⟨h1.fr (hf.mono fun _ _ hk => hk.1), h2.fr hf h6.1, h3.fr hf h7.1, h4.fr hf h8.1, h5.fr hf h9, h6, h7, h8, h9⟩
  call := by
    rintro i w hi ⟨h1, h2, h3, h4, h5, h6, h7, h8, h9⟩ hB
    rcases Nat.lt_or_ge i up with hlt | hge
    · refine (row0_calls w i up bu ba bm bc h2 hlt).mono ?_
      rintro e w' ⟨rfl, rfl⟩
      refine ⟨by rw [rowF, if_pos hlt]; rfl, ⟨h1, h2, h3, h4, ?_, h6, h7, h8, h9⟩, Fr.refl _ _⟩
      have e1 : i - up = 0 := by omega
      have e2 : i + 1 - up = 0 := by omega
      rw [e2]; rw [e1] at h5; exact h5
    · refine (row1_calls w i up bu ba bm bc va xs m (rowC xs m (i - up)) hm (rowC_lt hx hm _) h1 h2 h3 h4 h5 (by omega) hge).mono ?_
      rintro e w' ⟨rfl, hb, hf⟩
      refine ⟨by rw [rowF, if_neg (by omega)], ⟨h1.fr (hf.mono fun _ _ hk => hk.2), h2.fr hf h6.2, h3.fr hf h7.2, h4.fr hf h8.2, ?_, h6, h7, h8, h9⟩, hf⟩
      rw [show i + 1 - up = (i - up) + 1 from by omega, rowC]; exact hb
  low := by rintro k rfl; exact hbc
  small := by
    intro i _
    have : rowF xs m up i < 4294967296 := by
      unfold rowF
      split
      · decide
      · exact Nat.mod_lt _ LBpos
    omega

theorem Box.at2 {w : World} {t : TypeId} {v : Value} {b : Nat} {o : Obj} (hb : b = w.heap.size + 1) : Box ((w.alloc o).alloc (.cells #[v] t)) b t v := by
  subst hb; simpa using Box.new (w.alloc o) t v
theorem Box.at3 {w : World} {t : TypeId} {v : Value} {b : Nat} {o o2 : Obj} (hb : b = w.heap.size + 2) : Box (((w.alloc o).alloc o2).alloc (.cells #[v] t)) b t v := by
  subst hb; simpa using Box.new ((w.alloc o).alloc o2) t v
theorem Box.at4 {w : World} {t : TypeId} {v : Value} {b : Nat} {o o2 o3 : Obj} (hb : b = w.heap.size + 3) : Box ((((w.alloc o).alloc o2).alloc o3).alloc (.cells #[v] t)) b t v := by
  subst hb; simpa using Box.new (((w.alloc o).alloc o2).alloc o3) t v

set_option maxHeartbeats 400000 in
theorem row_calls {S : Nat → Prop} (w : World) (va : Value) (xs : List Nat) (m up : Nat) (hm : m < LB) (ha : Sl Lm S w va xs) (hxl : xs.length + up + 1 ≤ 1099511627000) :
    Calls Tryz.prog 144 #[va, .int .u32 m, .int .i64 up] w fun e w' => ∃ v, e = .returned v ∧ Own Lm 150 (fun k => w.heap.size ≤ k) w' v (dg LB (val xs * m * LB ^ up)) ∧ Fr (fun k => k < w.heap.size) w w' := by
  obtain ⟨A, c, rfl, _, _, hlx⟩ := ha.slice
  have hxd := Kd.nat_all ha
  have HA := Lib.hid ha
  clear ha
  go_enter Tryz.func144, Tryz.ntmps144
  go_wp2_with fail
  have hf := fun R => ((((Fr.refl R w).alloc (.cells #[.slice A xs.length c] 52)).alloc (.cells #[.int .u32 m] 150)).alloc (.cells #[.int .i64 up] 3)).alloc (.cells #[.int .u64 0] 170)
  have hsl := (HA.out.up Lm_pos (Nat.le_refl _) (hf (fun k => k < w.heap.size)))
  refine (gather_calls _ (xs.length + up + 1) (by omega) _ _ _ _ _ (row_at _ (w.heap.size + 1 + 1) w.heap.size (w.heap.size + 1) (w.heap.size + 1 + 1 + 1) (.slice A xs.length c) xs m up (xs.length + up + 1) hm hxd (by omega) (by simp)) ?_).mono ?_
  · exact ⟨hsl.mono fun k hk => ⟨by simp <;> omega, by omega⟩, (Box.at3 rfl).alloc _, ((Box.new _ _ _).alloc _).alloc _ |>.alloc _, ((Box.at2 rfl).alloc _).alloc _, by rw [Nat.zero_sub]; exact Box.at4 rfl, ⟨by simp, by omega⟩, ⟨by simp <;> omega, by omega⟩, ⟨by simp <;> omega, by omega⟩, by simp⟩
  rintro e w1 ⟨v, rfl, ho, hfr⟩
  go_wp2_with fail
  go_ret
  refine ⟨_, rfl, ?_, (hf _).comp hfr fun k hk _ => ⟨hk, by simp; omega, by omega⟩⟩
  rw [row_total hxd hm] at ho
  exact ho.mono fun k hk => by simp at hk; omega

set_option maxHeartbeats 400000 in
theorem mul_calls {S T : Nat → Prop} (w : World) (va vb : Value) (xs ys : List Nat) (ha : Sl Lm S w va xs) (hb : Sl Lm T w vb ys) (hl : xs.length + ys.length ≤ 1099511626000) :
    Calls Tryz.prog 126 #[va, vb] w fun e w' => ∃ v, e = .returned v ∧ Own Lm 150 (fun k => w.heap.size ≤ k) w' v (dg LB (val xs * val ys)) ∧ Fr (fun k => k < w.heap.size) w w' := by
  obtain ⟨A, c, rfl, _, _, hly⟩ := hb.slice
  have hyd := Kd.nat_all hb
  have hxd := Kd.nat_all ha
  have HB := Lib.hid hb
  have HA := Lib.hid ha
  clear ha hb
  go_enter Tryz.func126, Tryz.ntmps126
  go_wp2_with fail
  go_loopw [5, 10] (fun o i wr => ∃ (j : Nat), j ≤ ys.length ∧ i = .int .i64 j ∧ Own Lm 150 (fun k => w.heap.size ≤ k) wr o (dg LB (val xs * ofB LB (ys.take j))) ∧ Fr (fun k => k < w.heap.size) w wr) (fun _ i _ => ys.length - (intOf i).toNat)
  case atStart => exact ⟨0, Nat.zero_le _, rfl, by rw [List.take_zero, ofB, Nat.mul_zero, dg_zero]; exact Own.nil _ _ _ _, Fr.refl _ _⟩
  case round =>
    obtain ⟨j, hj, rfl, ho, hfr⟩ := hrel
    by_cases hlt : j < ys.length
    · have hsb := HB.out.up Lm_pos (Nat.le_refl _) hfr
      have hsa := HA.out.up Lm_pos (Nat.le_refl _) hfr
      obtain ⟨ad, rfl, hc, hm⟩ := Kd.nat_cell hsb hlt
      obtain ⟨y, hy⟩ : ∃ y, y = ys[j] := ⟨_, rfl⟩
      rw [← hy] at hc hm
      have htk : ofB LB (ys.take (j + 1)) = ofB LB (ys.take j) + LB ^ j * y := by
        rw [List.take_succ_eq_append_getElem hlt, ofB_snoc, List.length_take, Nat.min_eq_left (by omega), hy]
      have HY := Lib.hid htk
      clear hy htk
      have hlo : (dg LB (val xs * ofB LB (ys.take j))).length ≤ xs.length + j := by
        refine dg_len_le LB2 ?_
        rw [Nat.pow_add]
        have h1 := ofB_lt hxd
        have h2 := ofB_lt (b := LB) (l := ys.take j) (fun d hd => hyd d (List.mem_of_mem_take hd))
        rw [List.length_take, Nat.min_eq_left (by omega)] at h2
        exact Nat.mul_lt_mul_of_lt_of_lt h1 h2
      have HLO := Lib.hid hlo
      clear hlo
      go_wp2_with fail
      refine (row_calls wr va xs y j hm hsa (by omega)).mono ?_
      rintro e w2 ⟨vr, rfl, hor, hfr2⟩
      go_wp2_with fail
      have hlr : (dg LB (val xs * y * LB ^ j)).length ≤ xs.length + 1 + j := by
        refine dg_len_le LB2 ?_
        rw [Nat.pow_add, Nat.pow_succ]
        exact Nat.mul_lt_mul_of_pos_right (Nat.mul_lt_mul_of_lt_of_lt (ofB_lt hxd) hm) (Nat.pow_pos LBpos)
      have hlo := HLO.out
      refine (add_calls w2 u5 vr _ _ (ho.sl.keep' Lm_pos hfr2) hor.sl (by omega) (by omega)).mono ?_
      rintro e w3 ⟨v3, rfl, ho3, hfr3⟩
      have hs2 := hfr2.size
      have hs3 := hfr.size
      clear hlr hlo
      go_wp2_with fail
      go_roundw
      case rel =>
        refine ⟨j + 1, hlt, by go_num, ?_, (hfr.comp hfr2 fun k hk _ => ⟨hk, by omega⟩).comp hfr3 fun k hk _ => ⟨hk, by omega⟩⟩
        rw [val_dg, val_dg] at ho3
        rw [HY.out, Nat.mul_add, Nat.mul_comm (LB ^ j), ← Nat.mul_assoc]
        exact ho3.mono fun k hk => by omega
      case measure => simp [intOf]; omega
    · obtain rfl : j = ys.length := by omega
      go_wp2_with fail
      go_ret
      rw [List.take_length] at ho
      exact ⟨_, rfl, ho, hfr⟩
end Go.Proofs.YtlppcfeimpcbjaaGreat
