import Derived.Test.YtlknmoegngjpcaaGreatIdx
import Derived.Test.YtlknmoegngjpcaaGreatTenU
import Derived.Laws.OwnMore
set_option linter.unusedSimpArgs false
set_option linter.unusedVariables false

/- The document's indexes: Next, Indexes, SameList, Offset. -/
namespace Go.Proofs.YtlknmoegngjpcaaGreat
open Go.RowKit

theorem Own.int_at {e : TypeId} {S : Nat → Prop} {w : World} {A : Option Addr} {n c : Nat} {xs : List Int} (h : Own Im e S w (.slice A n c) xs) {j : Nat} (hj : j < xs.length) : ∃ g, A = some ⟨g, 0, none⟩ ∧ S g ∧ g < w.heap.size ∧ w.cell? ⟨g, j, none⟩ = some (.int .i64 xs[j]) ∧ w.frozen? ⟨g, j, none⟩ = false ∧
    ∀ x : Int, -9223372036854775808 ≤ x → x < 9223372036854775808 → Own Im e S (w.setCell ⟨g, j, none⟩ (.int .i64 x)) (.slice A n c) (xs.set j x) := by
  have hlt := h.lt
  obtain ⟨cells, h1, h2, h3⟩ := h
  have h1' := h1
  rcases h1.2 with ⟨_, hz⟩ | ⟨g, cap, cur, he, hb, hg, hcap, hmax, hsz, htake⟩
  · omega
  · cases he
    have hget : ∀ (i : Nat) (x : Int), xs[i]? = some x → cells[i]? = some (.int .i64 x) := fun i x hx => by
      obtain ⟨cs, ⟨rfl, _⟩, hu⟩ := h3 i x hx
      have := hu 0 _ rfl
      simpa [Im, Kd.int] using this
    refine ⟨g, rfl, h2 g rfl, hlt g rfl, ?_, h1'.frozenAt j, fun x hx1 hx2 => ⟨cells.set j (.int .i64 x), ?_, h2, fun i y hy => ?_⟩⟩
    · rw [h1'.cellAt j (by show j < xs.length * 1; omega)]
      exact hget j _ (by simp [hj])
    · have := (h1'.stored j (.int .i64 x)).1
      rw [List.length_set]
      exact this
    · by_cases hij : i = j
      · subst hij
        rw [List.getElem?_set_self hj] at hy
        cases hy
        refine ⟨[.int .i64 x], ⟨rfl, hx1, hx2⟩, fun k u hk => ?_⟩
        have hk0 : k = 0 := by
          have := (List.getElem?_eq_some_iff.1 hk).1
          simp at this; exact this
        subst hk0
        simp at hk
        subst hk
        have : i < cells.length := by
          have := (List.getElem?_eq_some_iff.1 (hget i xs[i] (by simp [hj]))).1
          exact this
        simp [Im, Kd.int, this]
      · rw [List.getElem?_set_ne (fun e => hij e.symm)] at hy
        obtain ⟨cs, ⟨rfl, hb1⟩, hu⟩ := h3 i y hy
        refine ⟨_, ⟨rfl, hb1⟩, fun k u hk => ?_⟩
        have hk0 : k = 0 := by
          have := (List.getElem?_eq_some_iff.1 hk).1
          simp at this; exact this
        subst hk0
        have := hu 0 u hk
        simp only [Im, Kd.int, Nat.mul_one, Nat.add_zero] at this ⊢
        rw [List.getElem?_set_ne (fun e => hij e.symm)]
        exact this

theorem iset_mid (a b : List Int) (x y : Int) : (a ++ x :: b).set a.length y = a ++ y :: b := by simp
theorem itake_mid {l r : List Int} {j : Nat} (hj : j < l.length) (x y : Int) (hx : l[j] = x) : (l.take (j + 1) ++ r).set j y = l.take j ++ y :: r := by
  have e : l.take (j + 1) ++ r = l.take j ++ x :: r := by rw [List.take_succ_eq_append_getElem hj, hx]; simp
  have hl : (l.take j).length = j := by rw [List.length_take]; omega
  have := iset_mid (l.take j) r x y
  rw [hl] at this
  rw [e, this]

abbrev Ix : Kd (List Int) := Kd.sl Im Im_pos
theorem Ix_pos : 0 < Ix.size := by decide
theorem Ix_get {S : Nat → Prop} {w : World} {xs : List (List Int)} {A : Option Addr} {c : Nat} (h : Sl Ix S w (.slice A xs.length c) xs) {i : Nat} (hi : i < xs.length) : ∃ ad P n d, A = some ad ∧ S ad.block ∧ w.cell? (ad.add i) = some (.slice P n d) ∧ Sl Im S w (.slice P n d) xs[i] := by
  obtain ⟨A', c', he, h1, h2, h3, h4⟩ := h
  cases he
  obtain ⟨ad, rfl, hS, hc⟩ := h4 (by omega)
  obtain ⟨cs, ⟨v, rfl, hv⟩, hu⟩ := hc i xs[i] (by simp [hi])
  obtain ⟨P, n, d, rfl⟩ := hv.form
  have := hu 0 _ rfl
  refine ⟨ad, P, n, d, rfl, hS, ?_, hv⟩
  simpa [Ix, Kd.sl] using this
/-- A slice of one element, laid anew. -/
theorem Own.single {α : Type} {K : Kd α} {e : TypeId} {S : Nat → Prop} (w : World) {x : α} {cs : List Value} (hS : S w.heap.size) (hr : K.rd (fun k => S k ∧ k < w.heap.size) w x cs) : Own K e S (w.alloc (.cells cs.toArray e)) (.slice (some ⟨w.heap.size, 0, none⟩) 1 1) [x] := by
  have hcl := K.len hr
  refine ⟨cs, World.ownsRow_lit w cs.toArray 1 (Nat.zero_le _) (by decide) (by simp [hcl]), fun g hg => by simp [Value.ownBlock] at hg; subst hg; exact hS, fun i y hy => ?_⟩
  cases i with
  | succ n => simp at hy
  | zero =>
    simp at hy; subst hy
    refine ⟨cs, K.mono (fun k hk => ⟨hk.1, fun e => by simp [Value.ownBlock] at e; omega⟩) (K.fr hr ((Fr.refl _ w).alloc _)), fun j u hj => by simpa using hj⟩
/-- A row of numbers, laid anew. -/
theorem Own.ints {e : TypeId} {S : Nat → Prop} (w : World) (xs : List Int) (cells : Array Value) (hc : cells = (xs.map fun x => Value.int .i64 x).toArray) (hb : ∀ x ∈ xs, -9223372036854775808 ≤ x ∧ x < 9223372036854775808) (hl : xs.length ≤ 1099511627000) (hS : S w.heap.size) : Own Im e S (w.alloc (.cells cells e)) (.slice (some ⟨w.heap.size, 0, none⟩) xs.length xs.length) xs := by
  refine ⟨cells.toList, World.ownsRow_lit w cells xs.length (Nat.zero_le _) (by unfold maxLen; omega) (by rw [hc]; simp [Im, Kd.int]), fun g hg => by simp [Value.ownBlock] at hg; subst hg; exact hS, fun i x hx => ⟨[.int .i64 x], ⟨rfl, hb x (List.mem_of_getElem? hx)⟩, fun j u hj => ?_⟩⟩
  have hj0 : j = 0 := by
    have := (List.getElem?_eq_some_iff.1 hj).1
    simp at this; exact this
  subst hj0
  simp at hj
  subst hj
  rw [hc]
  simp [Im, Kd.int, hx]
theorem make_ints (n : Nat) (hn : n ≤ 1099511627000) (u : World) : (Instr.makeSlice 22 (.int .i64 (n : Int)) (.int .i64 (n : Int))).run Tryz.prog u = .ok (.slice (some ⟨u.heap.size, 0, none⟩) n n) (u.alloc (.cells (((List.replicate n (0 : Int)).map fun x => Value.int .i64 x).toArray) 3)) := by
  obtain ⟨i0, hi, hz0, hz1, hz2⟩ := info_parts info_int
  have h := run_make (P := Tryz.prog) u 22 3 i0 (.int .i64 0) Tryz.underlying22 hi hz0 .i64 .i64 (n : Int) (n : Int) (by omega) (Int.le_refl _) (by rw [hz2]; omega) (by omega)
  rw [Int.toNat_natCast, hz1, Nat.mul_one] at h
  rw [h]
  refine congrArg (fun c => Result.ok _ (World.alloc u (Obj.cells c _ _))) ?_
  apply Array.ext'
  simp [madeCells, Value.cells]
  apply List.ext_getElem
  · simp
  · intro i h1 h2
    simp [Nat.mod_one]
/-- How long a slice is. -/
def lenV : Value → Nat
  | .slice _ n _ => n
  | _ => 0

end Go.Proofs.YtlknmoegngjpcaaGreat
