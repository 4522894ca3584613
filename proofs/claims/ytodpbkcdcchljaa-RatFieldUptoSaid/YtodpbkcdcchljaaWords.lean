
/- The vocabulary of this seat's proofs: frames ('Fr'), typed readings of memory with the blocks that they lean on ('Kd', 'Sl', 'Own'). No program in sight. -/
import Derived.WalkKit
import Derived.KernelRfl
import Derived.RowKit3
import Derived.Below
import Derived.OneCell
import Derived.Laws.AppendOwnNone
import Derived.Deep.Draws
import Derived.Deep.LoopGhost
import Derived.Deep.QuietTactic
import Derived.BigQuiet
import Derived.Lib.Hide
import Derived.Lib.SliceRun
import Derived.Deep.RegionWith
import Derived.Deep.RegionHeld3
import Derived.StillTailTactics
namespace Go.Proofs.Ytodpbkcdcchljaa
open Go.RowKit

/-! ### Frames -/

/-- The blocks of S lie in w' as they lay in w; no block has gone; the streams are as they were. -/
structure Fr (S : Nat → Prop) (w w' : World) : Prop where
  os : w'.os = w.os
  tape : w'.tape = w.tape
  output : w'.output = w.output
  size : w.heap.size ≤ w'.heap.size
  block : ∀ k, k < w.heap.size → S k → w'.heap[k]? = w.heap[k]?

theorem Fr.refl (S : Nat → Prop) (w : World) : Fr S w w := ⟨rfl, rfl, rfl, Nat.le_refl _, fun _ _ _ => rfl⟩
theorem Fr.comp {S T R : Nat → Prop} {a b c : World} (h : Fr S a b) (k : Fr T b c) (hs : ∀ i, i < a.heap.size → R i → S i ∧ T i) : Fr R a c :=
  ⟨k.os.trans h.os, k.tape.trans h.tape, k.output.trans h.output, Nat.le_trans h.size k.size, fun i hi hr =>
    (k.block i (Nat.lt_of_lt_of_le hi h.size) (hs i hi hr).2).trans (h.block i hi (hs i hi hr).1)⟩
theorem Fr.trans {S : Nat → Prop} {a b c : World} (h : Fr S a b) (k : Fr S b c) : Fr S a c := h.comp k fun _ _ r => ⟨r, r⟩
theorem Fr.mono {S T : Nat → Prop} {a b : World} (h : Fr S a b) (hs : ∀ i, i < a.heap.size → T i → S i) : Fr T a b :=
  ⟨h.os, h.tape, h.output, h.size, fun i hi ht => h.block i hi (hs i hi ht)⟩
theorem Fr.drew {S : Nat → Prop} {a b : World} (h : Fr S a b) : Fr S a b.drew := ⟨h.os, h.tape, h.output, h.size, h.block⟩
theorem Fr.drewN {S : Nat → Prop} {a b : World} (h : Fr S a b) (n : Nat) : Fr S a (b.drewN n) := ⟨h.os, h.tape, h.output, h.size, h.block⟩
theorem Fr.alloc {S : Nat → Prop} {a b : World} (h : Fr S a b) (o : Obj) : Fr S a (b.alloc o) :=
  h.trans ⟨rfl, rfl, rfl, by simp, fun k hk _ => Below.heap_alloc _ _ _ hk⟩
theorem Fr.setCell {S : Nat → Prop} {a b : World} (h : Fr S a b) {p : Addr} (hp : p.block < a.heap.size → ¬ S p.block) (u : Value) : Fr S a (b.setCell p u) :=
  ⟨h.os, h.tape, h.output, by simp [World.setCell]; exact h.size, fun k hk hs => by
    rw [Below.heap_setCell _ _ _ _ (fun e => by subst e; exact hp hk hs)]; exact h.block k hk hs⟩
theorem Fr.grown {S : Nat → Prop} {a b c : World} {row : Option Nat} (h : Fr S a b) (hg : b.grownBy c row) (hr : ∀ k, row = some k → k < a.heap.size → ¬ S k) : Fr S a c :=
  h.comp (T := fun k => some k ≠ row) ⟨hg.os, hg.tape, hg.output, hg.size, fun k hk hs => hg.block k hk hs⟩ fun i hi hs => ⟨hs, fun e => hr i e.symm hi hs⟩
theorem Fr.cell {S : Nat → Prop} {a b : World} (h : Fr S a b) {p : Addr} {v : Value} (hc : a.cell? p = some v) (hs : S p.block) : b.cell? p = some v :=
  (World.cell?_of_block (w := a) (h.block p.block (World.block_lt_of_cell? a p hc) hs)).trans hc
theorem Fr.obj {S : Nat → Prop} {a b : World} (h : Fr S a b) {k : Nat} {o : Obj} (hc : a.heap[k]? = some o) (hs : S k) : b.heap[k]? = some o :=
  (h.block k (Array.getElem?_eq_some_iff.1 hc).1 hs).trans hc
theorem Fr.below {w w' : World} (h : Fr (fun k => k < w.heap.size) w w') : Below w.heap.size w w' :=
  ⟨h.os, h.tape, h.output, h.size, fun k hk => h.block k hk hk⟩
theorem Fr.of_below {B : Nat} {w w' : World} (h : Below B w w') : Fr (fun k => k < B) w w' := ⟨h.os, h.tape, h.output, h.size, fun k _ hk => h.block k hk⟩
theorem Fr.of_grown {w w' : World} {row : Option Nat} (hg : w.grownBy w' row) : Fr (fun k => some k ≠ row) w w' := ⟨hg.os, hg.tape, hg.output, hg.size, fun k hk hs => hg.block k hk hs⟩

theorem addr_add_add (a : Addr) (m n : Nat) : (a.add m).add n = a.add (m + n) := by
  unfold Addr.add
  by_cases hm : m = 0 <;> by_cases hn : n = 0 <;> simp_all <;> omega
theorem addr_block (a : Addr) (m : Nat) : (a.add m).block = a.block := by unfold Addr.add; split <;> rfl
theorem addr_zero (a : Addr) : a.add 0 = a := by simp [Addr.add]
theorem addr_lit (g o m : Nat) : (⟨g, o, none⟩ : Addr).add m = ⟨g, o + m, none⟩ := by unfold Addr.add; split <;> simp_all

/-! ### Kinds of data -/

/-- A kind of data: how many cells one fills, and when cells of a world read as one, all memory behind it lying in blocks of S. -/
structure Kd (α : Type) where
  size : Nat
  rd : (Nat → Prop) → World → α → List Value → Prop
  len : ∀ {S w x cs}, rd S w x cs → cs.length = size
  one : ∀ {S w x cs}, rd S w x cs → ∀ u ∈ cs, u.oneCell' = true
  mono : ∀ {S T w x cs}, (∀ k, S k → T k) → rd S w x cs → rd T w x cs
  bd : ∀ {S w x cs}, rd S w x cs → rd (fun k => S k ∧ k < w.heap.size) w x cs
  fr : ∀ {S w w' x cs}, rd S w x cs → Fr S w w' → rd S w' x cs

/-- Numbers of a kind of ints, from 0 on, below a bound. -/
def Kd.nat (k : IntKind) (b : Nat) : Kd Nat where
  size := 1
  rd _ _ x cs := cs = [.int k (x : Int)] ∧ x < b
  len h := by rw [h.1]; rfl
  one h u hu := by rw [h.1] at hu; simp at hu; subst hu; rfl
  mono _ h := h
  bd h := h
  fr h _ := h

theorem Kd.nat_any {k : IntKind} {b : Nat} {S T : Nat → Prop} {w : World} {x : Nat} {cs : List Value} (h : (Kd.nat k b).rd S w x cs) : (Kd.nat k b).rd T w x cs := h

/-- Integers of a kind between two bounds. -/
def Kd.int (k : IntKind) (lo hi : Int) : Kd Int where
  size := 1
  rd _ _ x cs := cs = [.int k x] ∧ lo ≤ x ∧ x < hi
  len h := by rw [h.1]; rfl
  one h u hu := by rw [h.1] at hu; simp at hu; subst hu; rfl
  mono _ h := h
  bd h := h
  fr h _ := h

theorem Kd.int_any {k : IntKind} {lo hi : Int} {S T : Nat → Prop} {w : World} {x : Int} {cs : List Value} (h : (Kd.int k lo hi).rd S w x cs) : (Kd.int k lo hi).rd T w x cs := h

/-- A slice that reads as a list. -/
def Sl {α : Type} (K : Kd α) (S : Nat → Prop) (w : World) (v : Value) (xs : List α) : Prop :=
  ∃ A c, v = .slice A xs.length c ∧ xs.length ≤ c ∧ c ≤ 9223372036854775807 ∧ (A = none → c = 0) ∧
    (0 < xs.length → ∃ ad, A = some ad ∧ S ad.block ∧ ∀ (i : Nat) (x : α), xs[i]? = some x →
      ∃ cs, K.rd S w x cs ∧ ∀ (j : Nat) (u : Value), cs[j]? = some u → w.cell? (ad.add (i * K.size + j)) = some u)

section
variable {α : Type} {K : Kd α} {S T : Nat → Prop} {w w' : World} {v : Value} {xs : List α}

theorem Sl.nil (K : Kd α) (S : Nat → Prop) (w : World) : Sl K S w (.slice none 0 0) [] := ⟨none, 0, rfl, Nat.le_refl _, by omega, fun _ => rfl, fun h => absurd h (by simp)⟩
theorem Sl.mono (h : Sl K S w v xs) (hs : ∀ k, S k → T k) : Sl K T w v xs := by
  obtain ⟨A, c, rfl, h1, h2, h3, h4⟩ := h
  refine ⟨A, c, rfl, h1, h2, h3, fun hl => ?_⟩
  obtain ⟨ad, rfl, hS, hc⟩ := h4 hl
  exact ⟨ad, rfl, hs _ hS, fun i x hx => let ⟨cs, hr, hu⟩ := hc i x hx; ⟨cs, K.mono hs hr, hu⟩⟩
theorem Sl.any (h : Sl K S w v xs) : Sl K (fun _ => True) w v xs := h.mono fun _ _ => trivial
end

theorem Kd.cells_size {α : Type} {K : Kd α} {S : Nat → Prop} {w : World} {x : α} {cs : List Value} (h : K.rd S w x cs) (hpos : 0 < K.size) : ∃ u, cs[0]? = some u := by
  have := K.len h
  cases cs with
  | nil => simp at this; omega
  | cons u r => exact ⟨u, rfl⟩

section
variable {α : Type} {K : Kd α} {S T : Nat → Prop} {w w' : World} {v : Value} {xs : List α}

theorem Sl.bd (hpos : 0 < K.size) (h : Sl K S w v xs) : Sl K (fun k => S k ∧ k < w.heap.size) w v xs := by
  obtain ⟨A, c, rfl, h1, h2, h3, h4⟩ := h
  refine ⟨A, c, rfl, h1, h2, h3, fun hl => ?_⟩
  obtain ⟨ad, rfl, hS, hc⟩ := h4 hl
  refine ⟨ad, rfl, ⟨hS, ?_⟩, fun i x hx => let ⟨cs, hr, hu⟩ := hc i x hx; ⟨cs, K.bd hr, hu⟩⟩
  obtain ⟨x, hx⟩ : ∃ x, xs[0]? = some x := ⟨xs[0], by simp⟩
  obtain ⟨cs, hr, hu⟩ := hc 0 x hx
  obtain ⟨u, hu0⟩ := Kd.cells_size hr hpos
  have := World.block_lt_of_cell? w _ (hu 0 u hu0)
  rwa [addr_block] at this
theorem Sl.fr (h : Sl K S w v xs) (hf : Fr S w w') : Sl K S w' v xs := by
  obtain ⟨A, c, rfl, h1, h2, h3, h4⟩ := h
  refine ⟨A, c, rfl, h1, h2, h3, fun hl => ?_⟩
  obtain ⟨ad, rfl, hS, hc⟩ := h4 hl
  exact ⟨ad, rfl, hS, fun i x hx => let ⟨cs, hr, hu⟩ := hc i x hx; ⟨cs, K.fr hr hf, fun j u hj => hf.cell (hu j u hj) (by rw [addr_block]; exact hS)⟩⟩
/-- What holds of the memory as it was: it is enough that the blocks that lay then lie as they lay. -/
theorem Sl.keep (hpos : 0 < K.size) (h : Sl K S w v xs) (hf : Fr (fun k => k < w.heap.size ∧ S k) w w') : Sl K S w' v xs :=
  (Sl.fr (Sl.bd hpos h) (hf.mono fun _ _ hk => ⟨hk.2, hk.1⟩)).mono fun _ hk => hk.1
theorem Sl.keep' (hpos : 0 < K.size) (h : Sl K S w v xs) (hf : Fr (fun k => k < w.heap.size) w w') : Sl K S w' v xs :=
  h.keep hpos (hf.mono fun _ _ hk => hk.1)
/-- What was read when a call began, at a later time, of blocks below B. -/
theorem Sl.up (hpos : 0 < K.size) (h : Sl K S w v xs) {B : Nat} (hB : w.heap.size ≤ B) (hf : Fr (fun k => k < w.heap.size) w w') : Sl K (fun k => k < B) w' v xs :=
  (Sl.fr ((Sl.bd hpos h).mono (T := fun k => k < w.heap.size) fun _ hk => hk.2) hf).mono fun _ hk => Nat.lt_of_lt_of_le hk hB
theorem Sl.slice (h : Sl K S w v xs) : ∃ A c, v = .slice A xs.length c ∧ xs.length ≤ c ∧ c ≤ 9223372036854775807 ∧ xs.length ≤ 9223372036854775807 := by
  obtain ⟨A, c, rfl, h1, h2, _⟩ := h
  exact ⟨A, c, rfl, h1, h2, by omega⟩
end

theorem Sl.take {α : Type} {K : Kd α} {S : Nat → Prop} {w : World} {A : Option Addr} {n c m : Nat} {xs : List α} (h : Sl K S w (.slice A n c) xs) (hm : m ≤ xs.length) : Sl K S w (.slice A m c) (xs.take m) := by
  obtain ⟨A', c', he, h1, h2, h3, h4⟩ := h
  cases he
  have hlm : (xs.take m).length = m := by simp; omega
  refine ⟨A, c, by rw [hlm], by omega, h2, h3, fun hp => ?_⟩
  obtain ⟨ad, rfl, hS, hc⟩ := h4 (by omega)
  refine ⟨ad, rfl, hS, fun i x hx => ?_⟩
  rw [List.getElem?_take] at hx
  split at hx
  · exact hc i x hx
  · cases hx

/-- A slice as one of a struct's fields, or as an element. -/
def Kd.sl {α : Type} (K : Kd α) (hpos : 0 < K.size) : Kd (List α) where
  size := 1
  rd S w xs cs := ∃ v, cs = [v] ∧ Sl K S w v xs
  len h := by obtain ⟨v, rfl, _⟩ := h; rfl
  one h u hu := by
    obtain ⟨v, rfl, A, c, rfl, _⟩ := h
    simp at hu; subst hu; rfl
  mono hs h := by obtain ⟨v, rfl, h⟩ := h; exact ⟨v, rfl, h.mono hs⟩
  bd h := by obtain ⟨v, rfl, h⟩ := h; exact ⟨v, rfl, h.bd hpos⟩
  fr h hf := by obtain ⟨v, rfl, h⟩ := h; exact ⟨v, rfl, h.fr hf⟩

/-! ### Slices of the call's own, that may grow -/

def Own {α : Type} (K : Kd α) (e : TypeId) (S : Nat → Prop) (w : World) (v : Value) (xs : List α) : Prop :=
  ∃ cells, w.ownsRow 0 e K.size v xs.length cells ∧ (∀ g, v.ownBlock = some g → S g) ∧
    ∀ (i : Nat) (x : α), xs[i]? = some x → ∃ cs, K.rd (fun k => S k ∧ some k ≠ v.ownBlock) w x cs ∧ ∀ (j : Nat) (u : Value), cs[j]? = some u → cells[i * K.size + j]? = some u

section
variable {α : Type} {K : Kd α} {e : TypeId} {S T : Nat → Prop} {w w' : World} {v : Value} {xs : List α}

theorem Own.nil (K : Kd α) (e : TypeId) (S : Nat → Prop) (w : World) : Own K e S w (.slice none 0 0) [] :=
  ⟨[], World.ownsRow_nil _ _ _ _, fun g hg => by simp [Value.ownBlock] at hg, fun i x hx => by simp at hx⟩
theorem Own.lt (h : Own K e S w v xs) : ∀ k, v.ownBlock = some k → k < w.heap.size := fun k hk => by
  obtain ⟨_, h, _⟩ := h; exact (h.lt k hk).2
theorem Own.in_ (h : Own K e S w v xs) : ∀ k, v.ownBlock = some k → S k := h.choose_spec.2.1
theorem Own.mono (h : Own K e S w v xs) (hs : ∀ k, S k → T k) : Own K e T w v xs := by
  obtain ⟨cells, h1, h2, h3⟩ := h
  exact ⟨cells, h1, fun g hg => hs g (h2 g hg), fun i x hx => let ⟨cs, hr, hu⟩ := h3 i x hx; ⟨cs, K.mono (fun k hk => ⟨hs k hk.1, hk.2⟩) hr, hu⟩⟩
theorem Own.bd (h : Own K e S w v xs) : Own K e (fun k => S k ∧ k < w.heap.size) w v xs := by
  have hlt := h.lt
  obtain ⟨cells, h1, h2, h3⟩ := h
  exact ⟨cells, h1, fun g hg => ⟨h2 g hg, hlt g hg⟩, fun i x hx => let ⟨cs, hr, hu⟩ := h3 i x hx; ⟨cs, K.mono (fun k hk => ⟨⟨hk.1.1, hk.2⟩, hk.1.2⟩) (K.bd hr), hu⟩⟩
theorem Own.fr (h : Own K e S w v xs) (hf : Fr S w w') : Own K e S w' v xs := by
  obtain ⟨cells, h1, h2, h3⟩ := h
  refine ⟨cells, ?_, h2, fun i x hx => let ⟨cs, hr, hu⟩ := h3 i x hx; ⟨cs, K.fr hr (hf.mono fun _ _ hk => hk.1), hu⟩⟩
  refine ⟨h1.1, ?_⟩
  rcases h1.2 with hn | ⟨g, cap, cur, rfl, hb, hg, rest⟩
  · exact .inl hn
  · exact .inr ⟨g, cap, cur, rfl, hb, hf.obj hg (h2 g rfl), rest⟩
theorem Own.keep (h : Own K e S w v xs) (hf : Fr (fun k => k < w.heap.size ∧ S k) w w') : Own K e S w' v xs :=
  (Own.fr (Own.bd h) (hf.mono fun _ _ hk => ⟨hk.2, hk.1⟩)).mono fun _ hk => hk.1
theorem Own.keep' (h : Own K e S w v xs) (hf : Fr (fun k => k < w.heap.size) w w') : Own K e S w' v xs := h.keep (hf.mono fun _ _ hk => hk.1)

theorem Own.sl (h : Own K e S w v xs) : Sl K S w v xs := by
  obtain ⟨cells, h1, h2, h3⟩ := h
  obtain ⟨hlen, ⟨rfl, hn⟩ | ⟨g, cap, cur, rfl, hb, hg, hcap, hmax, hsz, htake⟩⟩ := h1
  · obtain rfl : xs = [] := List.eq_nil_of_length_eq_zero hn
    exact Sl.nil _ _ _
  · refine ⟨some ⟨g, 0, none⟩, cap, rfl, hcap, hmax, fun h => by simp at h, fun _ => ⟨_, rfl, h2 g rfl, fun i x hx => ?_⟩⟩
    obtain ⟨cs, hr, hu⟩ := h3 i x hx
    refine ⟨cs, K.mono (fun k hk => hk.1) hr, fun j u hj => ?_⟩
    have hcu := hu j u hj
    rw [← htake, List.getElem?_take] at hcu
    split at hcu
    · rw [addr_lit, cell_of_row w g _ cur e (0, 0) hg]
      simpa using hcu
    · cases hcu
theorem Own.slice (h : Own K e S w v xs) : ∃ A c, v = .slice A xs.length c ∧ xs.length ≤ c ∧ c ≤ 9223372036854775807 ∧ xs.length ≤ 9223372036854775807 := h.sl.slice
end

theorem flat_cells {α : Type} {K : Kd α} {T : Nat → Prop} {w : World} : ∀ (ys : List α) (ad : Addr),
    (∀ (i : Nat) (x : α), ys[i]? = some x → ∃ cs, K.rd T w x cs ∧ ∀ (j : Nat) (u : Value), cs[j]? = some u → w.cell? (ad.add (i * K.size + j)) = some u) →
    ∃ news : List Value, news.length = ys.length * K.size ∧ (∀ (j : Nat) (u : Value), news[j]? = some u → w.cell? (ad.add j) = some u) ∧ (∀ u ∈ news, u.oneCell' = true) ∧
      ∀ (i : Nat) (x : α), ys[i]? = some x → ∃ cs, K.rd T w x cs ∧ ∀ (j : Nat) (u : Value), cs[j]? = some u → news[i * K.size + j]? = some u := by
  intro ys
  induction ys with
  | nil => exact fun ad _ => ⟨[], by simp, by simp, by simp, by simp⟩
  | cons y ys ih =>
    intro ad h
    obtain ⟨cs, hr, hu⟩ := h 0 y rfl
    have hcl := K.len hr
    obtain ⟨news, h1, h2, h3, h4⟩ := ih (ad.add K.size) (fun i x hx => by
      obtain ⟨cs', hr', hu'⟩ := h (i + 1) x (by simpa using hx)
      refine ⟨cs', hr', fun j u hj => ?_⟩
      have := hu' j u hj
      rwa [addr_add_add, ← Nat.add_assoc, Nat.add_comm K.size, ← Nat.succ_mul])
    refine ⟨cs ++ news, ?_, ?_, ?_, ?_⟩
    · simp only [List.length_append, List.length_cons, hcl, h1, Nat.succ_mul]; omega
    · intro j u hj
      rcases Nat.lt_or_ge j cs.length with hlt | hge
      · rw [List.getElem?_append_left hlt] at hj
        have := hu j u hj
        simpa using this
      · rw [List.getElem?_append_right hge] at hj
        have := h2 _ u hj
        rw [addr_add_add] at this
        rwa [hcl, Nat.add_sub_cancel' (by omega)] at this
    · intro u hu'
      rcases List.mem_append.1 hu' with hm | hm
      · exact K.one hr u hm
      · exact h3 u hm
    · intro i x hx
      cases i with
      | zero =>
        simp at hx; subst hx
        refine ⟨cs, hr, fun j u hj => ?_⟩
        rw [Nat.zero_mul, Nat.zero_add, List.getElem?_append_left (List.getElem?_eq_some_iff.1 hj).1]
        exact hj
      | succ i =>
        obtain ⟨cs', hr', hu'⟩ := h4 i x (by simpa using hx)
        refine ⟨cs', hr', fun j u hj => ?_⟩
        rw [List.getElem?_append_right (by rw [hcl, Nat.succ_mul]; omega), hcl]
        have e : (i + 1) * K.size + j - K.size = i * K.size + j := by rw [Nat.succ_mul]; omega
        rw [e]
        exact hu' j u hj

/-- What a slice reads as lies in cells, one behind the other. -/
theorem Sl.flat {α : Type} {K : Kd α} {T : Nat → Prop} {w : World} {x : Value} {ys : List α} (h : Sl K T w x ys) :
    (x = .slice none 0 0 ∧ ys = []) ∨ ∃ (ad : Addr) (c : Nat) (news : List Value), x = .slice (some ad) ys.length c ∧ news.length = ys.length * K.size ∧ (∀ (j : Nat) (u : Value), news[j]? = some u → w.cell? (ad.add j) = some u) ∧ (∀ u ∈ news, u.oneCell' = true) ∧
      ∀ (i : Nat) (x : α), ys[i]? = some x → ∃ cs, K.rd T w x cs ∧ ∀ (j : Nat) (u : Value), cs[j]? = some u → news[i * K.size + j]? = some u := by
  obtain ⟨A, c, rfl, h1, h2, h3, h4⟩ := h
  cases ys with
  | nil =>
    cases A with
    | none => exact .inl ⟨by rw [h3 rfl]; rfl, rfl⟩
    | some ad => exact .inr ⟨ad, c, [], rfl, by simp, by simp, by simp, by simp⟩
  | cons y ys =>
    obtain ⟨ad, rfl, _, hc⟩ := h4 (by simp)
    obtain ⟨news, g1, g2, g3, g4⟩ := flat_cells (y :: ys) ad hc
    exact .inr ⟨ad, c, news, rfl, g1, g2, g3, g4⟩

/-- A run of append: the source reads as 'ys' and shares nothing with the slice that grows. -/
theorem run_push {P : Program} {α : Type} (K : Kd α) (hpos : 0 < K.size) {w : World} (t ty e : TypeId) (i : TypeInfo) (z : Value) (bytes : Nat)
    (ht : P.underlying t = some (.slice e)) (hi : P.info? e = some i) (hz : i.zero = some z) (hsize : i.size = K.size) (hby : i.bytes = bytes) (hzs : z.cells.size = K.size)
    {S T : Nat → Prop} {v x : Value} {xs ys : List α} (h : Own K e S w v xs) (hx : Sl K T w x ys) (hE : ∀ y cs, K.rd T w y cs → K.rd (fun k => S k ∧ some k ≠ v.ownBlock) w y cs)
    (hnew : ∀ k, w.heap.size ≤ k → S k) (hl : (xs.length + ys.length) * bytes ≤ 140737488355328) (hm : xs.length + ys.length ≤ 9223372036854775807) :
    ∃ v' w', (Builtin.append_ #[t, t] ty #[v, x]).run P w = .ok v' w' ∧ Own K e S w' v' (xs ++ ys) ∧ w.grownBy w' v.ownBlock ∧
      (v'.ownBlock = v.ownBlock ∨ ∃ b, v'.ownBlock = some b ∧ w.heap.size ≤ b) := by
  have hlt := h.lt
  obtain ⟨cells, h1, h2, h3⟩ := h
  rcases Sl.flat hx with ⟨rfl, rfl⟩ | ⟨ad, c, news, rfl, g1, g2, g3, g4⟩
  · refine ⟨v, w, run_append_owned_none (P := P) (w := w) 0 t ty e i K.size ht hi v xs.length cells h1, by simpa using ⟨cells, h1, h2, h3⟩, ⟨rfl, rfl, rfl, Nat.le_refl _, fun _ _ _ => rfl⟩, .inl rfl⟩
  · obtain ⟨v', w', hrun, hown, hg, hat⟩ : ∃ v' w', (Builtin.append_ #[t, t] ty #[v, .slice (some ad) ys.length c]).run P w = .ok v' w' ∧ w'.ownsRow 0 e K.size v' (xs.length + ys.length) (cells ++ news) ∧
        w.grownBy w' v.ownBlock ∧ (v'.ownBlock = v.ownBlock ∨ ∃ b, v'.ownBlock = some b ∧ w.heap.size ≤ b) := by
      rcases h1.2 with ⟨rfl, hn⟩ | ⟨g, cap, cur, rfl, hb, hgg, hcap, rest⟩
      · have h1' : w.ownsRow w.heap.size e K.size (.slice none 0 0) xs.length cells := ⟨h1.1, .inl ⟨rfl, hn⟩⟩
        obtain ⟨v', w', r1, r2, r3, r4⟩ := run_append_own (P := P) w w.heap.size t ty e i z K.size bytes ht hi hz hsize hby hzs hpos _ xs.length cells h1' ad ys.length c news g1 g2 g3 hm hl (Nat.le_refl _)
        refine ⟨v', w', r1, ⟨r2.1, ?_⟩, r3, ?_⟩
        · rcases r2.2 with q | ⟨g, cap, cur, q1, q2, q3⟩
          · exact .inl q
          · exact .inr ⟨g, cap, cur, q1, Nat.zero_le _, q3⟩
        · rcases r2.2 with ⟨rfl, _⟩ | ⟨g, cap, cur, rfl, q2, _⟩
          · exact .inl rfl
          · exact .inr ⟨g, rfl, q2⟩
      · by_cases hroom : xs.length + ys.length ≤ cap
        · obtain ⟨w', r1, r2, r3⟩ := run_append_fits (P := P) w 0 t ty e i K.size ht hi hsize g xs.length cap cells h1 ad ys.length c news g1 g2 g3 hroom
          exact ⟨_, w', r1, r2, r3, .inl rfl⟩
        · obtain ⟨v', w', r1, r2, r3⟩ := run_append_arg_grows (P := P) w t ty e i z K.size bytes ht hi hz hsize hby hzs hpos ⟨g, 0, none⟩ xs.length cap cells h1.1 (h1.cells rfl) ad ys.length c news g1 g2 (by omega) hm hl
          refine ⟨v', w', r1, ⟨r2.1, ?_⟩, ⟨r3.os, r3.tape, r3.output, r3.size, fun k hk _ => r3.block k hk (by simp)⟩, ?_⟩
          · rcases r2.2 with q | ⟨g, cap, cur, q1, q2, q3⟩
            · exact .inl q
            · exact .inr ⟨g, cap, cur, q1, Nat.zero_le _, q3⟩
          · rcases r2.2 with ⟨rfl, hz0⟩ | ⟨g, cap, cur, rfl, q2, _⟩
            · exfalso; omega
            · exact .inr ⟨g, rfl, q2⟩
    have hfr : Fr (fun k => some k ≠ v.ownBlock) w w' := Fr.of_grown hg
    have hsize' := h1.1
    refine ⟨v', w', hrun, ⟨cells ++ news, by rw [List.length_append]; exact hown, ?_, ?_⟩, hg, hat⟩
    · intro g hgv
      rcases hat with q | ⟨b, q, hb⟩
      · exact h2 g (q ▸ hgv)
      · rw [q] at hgv; cases hgv; exact hnew _ hb
    · have hkeep : ∀ k, k < w.heap.size → some k ≠ v.ownBlock → some k ≠ v'.ownBlock := by
        intro k hk hne
        rcases hat with q | ⟨b, q, hb⟩
        · rw [q]; exact hne
        · rw [q]; intro e; cases e; omega
      intro i x hx
      rcases Nat.lt_or_ge i xs.length with hlt' | hge
      · rw [List.getElem?_append_left hlt'] at hx
        obtain ⟨cs, hr, hu⟩ := h3 i x hx
        refine ⟨cs, K.mono (fun k hk => ⟨hk.1.1, hkeep k hk.2 hk.1.2⟩) (K.fr (K.bd hr) (hfr.mono fun _ _ hk => hk.1.2)), fun j u hj => ?_⟩
        have hc := hu j u hj
        rw [List.getElem?_append_left (List.getElem?_eq_some_iff.1 hc).1]
        exact hc
      · rw [List.getElem?_append_right hge] at hx
        obtain ⟨cs, hr, hu⟩ := g4 _ x hx
        have hTw : K.rd (fun k => (S k ∧ some k ≠ v.ownBlock) ∧ k < w.heap.size) w x cs := K.bd (hE _ _ hr)
        refine ⟨cs, K.mono (fun k hk => ⟨hk.1.1, hkeep k hk.2 hk.1.2⟩) (K.fr hTw (hfr.mono fun _ _ hk => hk.1.2)), fun j u hj => ?_⟩
        have hc := hu j u hj
        have hle : xs.length * K.size ≤ i * K.size := Nat.mul_le_mul_right _ hge
        rw [List.getElem?_append_right (by rw [hsize']; omega), hsize']
        rw [Nat.sub_mul] at hc
        rw [show i * K.size + j - xs.length * K.size = i * K.size - xs.length * K.size + j from by omega]
        exact hc

theorem Own.form {α : Type} {K : Kd α} {e : TypeId} {S : Nat → Prop} {w : World} {v : Value} {xs : List α} (h : Own K e S w v xs) : ∃ A n c, v = .slice A n c := by
  obtain ⟨A, c, h, _⟩ := h.slice; exact ⟨A, _, c, h⟩
theorem Sl.form {α : Type} {K : Kd α} {S : Nat → Prop} {w : World} {v : Value} {xs : List α} (h : Sl K S w v xs) : ∃ A n c, v = .slice A n c := by
  obtain ⟨A, c, h, _⟩ := h.slice; exact ⟨A, _, c, h⟩

theorem Own.empty {α : Type} (K : Kd α) (e : TypeId) {S : Nat → Prop} (w : World) (hS : S w.heap.size) : Own K e S (w.alloc (.cells #[] e)) (.slice (some ⟨w.heap.size, 0, none⟩) 0 0) [] :=
  ⟨[], World.ownsRow_made w #[] 0 (Nat.zero_le _) (by decide) (by simp), fun g hg => by simp [Value.ownBlock] at hg; subst hg; exact hS, fun i x hx => by simp at hx⟩
/-- The first elements of a slice of the call's own. -/
theorem Own.take {α : Type} {K : Kd α} {e : TypeId} {S : Nat → Prop} {w : World} {A : Option Addr} {n c m : Nat} {xs : List α} (h : Own K e S w (.slice A n c) xs) (hm : m ≤ xs.length) : Own K e S w (.slice A m c) (xs.take m) := by
  have hob : (Value.slice A m c).ownBlock = (Value.slice A n c).ownBlock := by cases A <;> rfl
  obtain ⟨cells, h1, h2, h3⟩ := h
  have hlm : (xs.take m).length = m := by simp; omega
  refine ⟨cells.take (m * K.size), ⟨?_, ?_⟩, ?_, ?_⟩
  · have h' : m * K.size ≤ xs.length * K.size := Nat.mul_le_mul_right _ hm
    rw [List.length_take, h1.1, hlm]; omega
  · rcases h1.2 with ⟨he, hz⟩ | ⟨g, cap, cur, he, hb, hg, hcap, hmax, hsz, htake⟩
    · cases he
      obtain rfl : m = 0 := by omega
      exact .inl ⟨rfl, hlm⟩
    · cases he
      refine .inr ⟨g, c, cur, by rw [hlm], hb, hg, by omega, hmax, hsz, ?_⟩
      have h' : m * K.size ≤ xs.length * K.size := Nat.mul_le_mul_right _ hm
      rw [hlm, ← htake, List.take_take, Nat.min_eq_left h']
  · intro g hg
    exact h2 g (hob ▸ hg)
  · intro i x hx
    rw [List.getElem?_take] at hx
    split at hx
    case isFalse => cases hx
    rename_i hi
    obtain ⟨cs, hr, hu⟩ := h3 i x hx
    have hcl := K.len hr
    refine ⟨cs, K.mono (fun k hk => ⟨hk.1, hob ▸ hk.2⟩) hr, fun j u hj => ?_⟩
    have hj' := (List.getElem?_eq_some_iff.1 hj).1
    rw [List.getElem?_take, if_pos]
    · exact hu j u hj
    · have : (i + 1) * K.size ≤ m * K.size := Nat.mul_le_mul_right _ hi
      rw [Nat.succ_mul] at this; omega

/-- What a program's table says of a slice's type and its elements'. -/
structure ElemT (P : Program) {α : Type} (K : Kd α) (t e : TypeId) (bytes : Nat) : Prop where
  under : P.underlying t = some (.slice e)
  pos : 0 < K.size
  info : ∃ i z, P.info? e = some i ∧ i.zero = some z ∧ i.size = K.size ∧ i.bytes = bytes ∧ z.cells.size = K.size

theorem ElemT.mk' {P : Program} {α : Type} {K : Kd α} {t e : TypeId} {bytes : Nat} (z : Value) (hu : P.underlying t = some (.slice e)) (hpos : 0 < K.size)
    (hi : (P.info? e).map (fun i => (i.zero, i.size, i.bytes)) = some (some z, K.size, bytes)) (hz : z.cells.size = K.size) : ElemT P K t e bytes := by
  obtain ⟨i, h1, h2, h3, h4⟩ := info_parts hi
  exact ⟨hu, hpos, i, z, h1, h2, h3, h4, hz⟩

section
variable {P : Program} {α : Type} {K : Kd α} {t e : TypeId} {bytes : Nat} (E : ElemT P K t e bytes) {ops : Array Oper} {rest : List Oper} {o : Oper} {a : Act} {Q : Exit → Act → World → Prop}
include E

/-- append of a slice that reads as a list, to a slice of the call's own. -/
theorem wpList_push (hgd : o.guard = none) {s x : Operand} (ho : o.op = .call { callee := .builtin .append, args := #[s, x], argTypes := #[t, t] }) {w : World}
    {S T : Nat → Prop} {v xv : Value} {xs ys : List α} (hs : a.eval s = v) (hx : a.eval x = xv) (h : Own K e S w v xs) (hy : Sl K T w xv ys) (hE : ∀ y cs, K.rd T w y cs → K.rd (fun k => S k ∧ some k ≠ v.ownBlock) w y cs)
    (hnew : ∀ k, w.heap.size ≤ k → S k) (hl : (xs.length + ys.length) * bytes ≤ 140737488355328) (hm : xs.length + ys.length ≤ 9223372036854775807)
    (next : ∀ v' w', Own K e S w' v' (xs ++ ys) → Fr (fun k => some k ≠ v.ownBlock) w w' → (v'.ownBlock = v.ownBlock ∨ ∃ b, v'.ownBlock = some b ∧ w.heap.size ≤ b) → wpList P ops Q rest (a.put o.dst v') w') :
    wpList P ops Q (o :: rest) a w := by
  obtain ⟨i, z, hi, hz, hsize, hby, hzs⟩ := E.info
  refine wpList_plain hgd fun K' hK => ?_
  obtain ⟨v', w', hrun, h1, h2, h3⟩ := run_push (P := P) K E.pos t o.type e i z bytes E.under hi hz hsize hby hzs h hy hE hnew hl hm
  unfold Oper.wp
  simp [execOp, ho, resolve, invoke, builtin, hs, hx, hrun, Result.andThen]
  exact hK _ _ (next v' w' h1 (Fr.of_grown h2) h3)

/-- append of one element: the world is the one behind the one-element slice's making. -/
theorem wpList_push1 (hgd : o.guard = none) {s x : Operand} (ho : o.op = .call { callee := .builtin .append, args := #[s, x], argTypes := #[t, t] }) {w : World}
    {S T : Nat → Prop} {v : Value} {xs : List α} {y : α} {cs : List Value} (hs : a.eval s = v) (hx : a.eval x = .slice (some ⟨w.heap.size, 0, none⟩) 1 1) (h : Own K e S w v xs) (hy : K.rd T w y cs)
    (hT : ∀ k, T k → k < w.heap.size → S k ∧ some k ≠ v.ownBlock)
    (hnew : ∀ k, w.heap.size ≤ k → S k) (hl : (xs.length + 1) * bytes ≤ 140737488355328) (hm : xs.length + 1 ≤ 9223372036854775807)
    (next : ∀ v' w', Own K e S w' v' (xs ++ [y]) → Fr (fun k => some k ≠ v.ownBlock) w w' → (v'.ownBlock = v.ownBlock ∨ ∃ b, v'.ownBlock = some b ∧ w.heap.size ≤ b) → wpList P ops Q rest (a.put o.dst v') w') :
    wpList P ops Q (o :: rest) a (w.alloc (.cells cs.toArray e)) := by
  have hlt := h.lt
  have hf : ∀ S, Fr S w (w.alloc (.cells cs.toArray e)) := fun S => (Fr.refl S w).alloc _
  have hy' : K.rd (fun k => T k ∧ k < w.heap.size) (w.alloc (.cells cs.toArray e)) y cs := K.fr (K.bd hy) (hf _)
  have hsl : Sl K (fun k => (T k ∧ k < w.heap.size) ∨ k = w.heap.size) (w.alloc (.cells cs.toArray e)) (.slice (some ⟨w.heap.size, 0, none⟩) 1 1) [y] :=
    ⟨_, 1, rfl, Nat.le_refl _, by omega, fun h => by simp at h, fun _ => ⟨_, rfl, .inr rfl, fun i x hx => by
      cases i with
      | succ i => simp at hx
      | zero =>
        simp at hx; subst hx
        refine ⟨cs, K.mono (fun k hk => .inl hk) hy', fun j u hj => ?_⟩
        rw [addr_lit, World.cell?_alloc_at _ _ _ _ rfl]
        simpa using hj⟩⟩
  refine wpList_push E hgd ho hs hx (h.fr (hf _)) hsl ?_ (fun k hk => hnew k (by simp at hk; omega)) (by simpa using hl) (by simpa using hm) ?_
  · intro y' cs' hr
    refine K.mono (fun k hk => ?_) hr
    rcases hk with hk | rfl
    · exact hT k hk.1 hk.2
    · exact ⟨hnew _ (Nat.le_refl _), fun e => by have := hlt _ e.symm; omega⟩
  · intro v' w' h1 h2 h3
    refine next v' w' h1 ((hf _).trans h2) ?_
    rcases h3 with q | ⟨b, q, hb⟩
    · exact .inl q
    · exact .inr ⟨b, q, by simp at hb; omega⟩
end

/-- Behind an append to a slice of the call's own: what lay ahead of the call lies as it lay. -/
theorem Fr.push {α : Type} {K : Kd α} {e : TypeId} {S R : Nat → Prop} {w wr w1 : World} {v : Value} {xs : List α} (h : Fr R w wr) (ho : Own K e S wr v xs) (hf : Fr (fun k => some k ≠ v.ownBlock) wr w1)
    (hd : ∀ k, k < w.heap.size → R k → ¬ S k) : Fr R w w1 :=
  h.comp hf fun k hk hr => ⟨hr, fun e => hd k hk hr (ho.in_ k e.symm)⟩

/-! ### Numbers of machine words -/

theorem wrap_u64_lt {n : Int} (h0 : 0 ≤ n) (h1 : n < 18446744073709551616) : IntKind.u64.wrap n = n := by rw [IntKind.wrap_u64]; omega
theorem wraps_u64 (n : Int) (h0 : 0 ≤ n) (h1 : n < 2 ^ 64) : IntKind.u64.wrap n = n := wrap_u64_lt h0 (by simpa using h1)
theorem mask32 {x : Int} (h0 : 0 ≤ x) (h1 : x < 18446744073709551616) : bits .and .u64 x 4294967295 = x % 4294967296 :=
  bits_mask .u64 64 (by decide) wraps_u64 32 (by decide) x h0 (by simpa using h1)
theorem join32 {x y : Int} (h0 : 0 ≤ x) (h1 : x < 4294967296) (h2 : 0 ≤ y) (h3 : y < 4294967296) : bits .or .u64 (x * 4294967296) y = x * 4294967296 + y :=
  bits_join .u64 64 (by decide) wraps_u64 32 _ _ (by omega) (by simp) (by have : x * 4294967296 < 18446744073709551616 := by omega
                                                                          simpa using this) h2 (by simpa using h3) (by have : y < 18446744073709551616 := by omega
                                                                                                                       simpa using this)
end Go.Proofs.Ytodpbkcdcchljaa
