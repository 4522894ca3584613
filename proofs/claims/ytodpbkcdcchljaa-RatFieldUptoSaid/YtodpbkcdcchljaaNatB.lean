
/- Package nat: gather: what places have, put together into limbs. -/
import Derived.Test.YtodpbkcdcchljaaNatA
namespace Go.Proofs.Ytodpbkcdcchljaa
open Go.RowKit

theorem info_u32 : (Try.prog.info? 62).map (fun i => (i.zero, i.size, i.bytes)) = some (some (.int .u32 0), 1, 4) := by kernel_rfl
theorem lmT : ElemT Try.prog Lm 23 62 4 := .mk' (.int .u32 0) Try.underlying23 (by decide) info_u32 rfl

/-- one cell in memory: a variable that a closure has captured -/
def Box (w : World) (b : Nat) (t : TypeId) (v : Value) : Prop := w.heap[b]? = some (.cells #[v] t (0, 0))
theorem Box.cell {w : World} {b : Nat} {t : TypeId} {v : Value} (h : Box w b t v) : w.cell? ⟨b, 0, none⟩ = some v := cell_of_one h
theorem Box.free {w : World} {b : Nat} {t : TypeId} {v : Value} (h : Box w b t v) : w.frozen? ⟨b, 0, none⟩ = false := free_of_one h
theorem Box.lt {w : World} {b : Nat} {t : TypeId} {v : Value} (h : Box w b t v) : b < w.heap.size := lt_of_block h
theorem Box.fr {w w' : World} {b : Nat} {t : TypeId} {v : Value} {S : Nat → Prop} (h : Box w b t v) (hf : Fr S w w') (hs : S b) : Box w' b t v := hf.obj h hs
theorem Box.set {w : World} {b : Nat} {t : TypeId} {v : Value} (h : Box w b t v) (u : Value) : Box (w.setCell ⟨b, 0, none⟩ u) b t u := one_setCell h
theorem Box.other {w : World} {b : Nat} {t : TypeId} {v : Value} (h : Box w b t v) {p : Addr} (hp : b ≠ p.block) (u : Value) : Box (w.setCell p u) b t v :=
  (Below.heap_setCell w p u b hp).trans h
theorem Box.other' {w : World} {b b' : Nat} {t : TypeId} {v : Value} (h : Box w b t v) (hp : b ≠ b') (u : Value) : Box (w.setCell ⟨b', 0, none⟩ u) b t v := h.other hp u
theorem Fr.setBox {S : Nat → Prop} {a b : World} (h : Fr S a b) {p : Nat} (hp : p < a.heap.size → ¬ S p) (u : Value) : Fr S a (b.setCell ⟨p, 0, none⟩ u) := h.setCell (p := ⟨p, 0, none⟩) hp u
theorem Box.new (w : World) (t : TypeId) (v : Value) : Box (w.alloc (.cells #[v] t)) w.heap.size t v := heap_alloc_new w _
theorem Box.alloc {w : World} {b : Nat} {t : TypeId} {v : Value} (h : Box w b t v) (o : Obj) : Box (w.alloc o) b t v := (Below.heap_alloc w o b h.lt).trans h

set_option maxHeartbeats 400000 in
theorem put_calls (w : World) (x : Nat) (bo bc B : Nat) (hbo : bo < B) (hbc : bc < B) (hne : bo ≠ bc) (hB : B ≤ w.heap.size) (v cv : Value) (ds : List Nat)
    (h1 : Box w bo 23 v) (h2 : Box w bc 85 cv) (ho : Own Lm 62 (fun k => B ≤ k) w v ds) (hl : ds.length ≤ 2199023255552) :
    Calls Try.prog 102 #[.int .u64 x, .pointer (some ⟨bo, 0, none⟩), .pointer (some ⟨bc, 0, none⟩)] w fun e w' => e = .returned (.tuple #[]) ∧
      ∃ v', Box w' bo 23 v' ∧ Box w' bc 85 (.int .u64 ((x / LB : Nat) : Int)) ∧ Own Lm 62 (fun k => B ≤ k) w' v' (ds ++ [x % LB]) ∧ Fr (fun k => k < B ∧ k ≠ bo ∧ k ≠ bc) w w' := by
  have hc1 := h1.cell
  have hrd : Lm.rd (fun _ => False) w (x % LB) [.int .u32 ((x : Int) % 4294967296)] := ⟨by simp [LB], Nat.mod_lt _ LBpos⟩
  have HR := Lib.hid hrd
  clear hrd
  go_enter Try.func102, Try.ntmps102
  go_wp2_with (at_builtin; refine wpList_push1 (v := v) lmT rfl rfl rfl rfl ho HR.out (fun _ h => h.elim) (fun k hk => by omega) (by omega) (by omega) ?_; intro v' w1 hown hfr hat; obtain ⟨A1, n1, c1, rfl⟩ := hown.form; have b1 := h1.fr hfr (fun e => by have := ho.in_ bo e.symm; omega); have b2 := h2.fr hfr (fun e => by have := ho.in_ bc e.symm; omega); have hc2 := b1.cell; have hf2 := b1.free; have hc3 := b2.cell; have hf3 := b2.free)
  go_end0
  refine ⟨rfl, _, (b1.set _).other (p := ⟨bc, 0, none⟩) (by show bo ≠ bc; omega) _, by simpa [LB] using (b2.other (p := ⟨bo, 0, none⟩) (by show bc ≠ bo; omega) _).set (.int .u64 ((x : Int) / 4294967296)), ?_, ?_⟩
  · exact hown.fr (((Fr.refl _ _).setCell (p := ⟨bo, 0, none⟩) (fun _ => by show ¬ B ≤ bo; omega) _).setCell (p := ⟨bc, 0, none⟩) (fun _ => by show ¬ B ≤ bc; omega) _)
  · exact ((hfr.mono fun k hk hk' e => by have := ho.in_ k e.symm; omega).setCell (p := ⟨bo, 0, none⟩) (fun _ h => h.2.1 rfl) _).setCell (p := ⟨bc, 0, none⟩) (fun _ h => h.2.2 rfl) _

/-- What gather may lean on of the function that it is handed: called at the places from 0 on, one behind the other, it answers f's numbers; it turns blocks of St alone, which lie below B. -/
structure At (P : Program) (k : FuncId) (caps : Array Value) (n : Nat) (f : Nat → Nat) (St : Nat → Prop) (B : Nat) (I : Nat → World → Prop) : Prop where
  enter : ∀ (args : Array Value) (w : World), (callFunc k args).run P w = .ok (.enter k args) w
  keep : ∀ i w w', I i w → Fr (fun k => k < B) w w' → I i w'
  call : ∀ i w, i < n → I i w → B ≤ w.heap.size → Calls P k (#[.int .i64 (i : Int)] ++ caps) w fun e w' => e = .returned (.int .u64 (f i : Int)) ∧ I (i + 1) w' ∧ Fr (fun k => ¬ St k) w w'
  low : ∀ k, St k → k < B
  small : ∀ i, i < n → f i ≤ 18446744069414584320

/-- How the memory lies between two rounds. -/
structure Gath (w : World) (St : Nat → Prop) (J : World → Prop) (v : Value) (ds : List Nat) (c : Nat) (wr : World) : Prop where
  size : w.heap.size + 2 ≤ wr.heap.size
  bo : Box wr w.heap.size 23 v
  bc : Box wr (w.heap.size + 1) 85 (.int .u64 (c : Int))
  own : Own Lm 62 (fun k => w.heap.size + 2 ≤ k) wr v ds
  fr : Fr (fun k => k < w.heap.size ∧ ¬ St k) w wr
  inv : J wr

/-- Behind a call of the function that was handed in. -/
theorem Gath.called {P : Program} {k : FuncId} {caps : Array Value} {n : Nat} {f : Nat → Nat} {w : World} {St : Nat → Prop} {I : Nat → World → Prop} (H : At P k caps n f St w.heap.size I) {v : Value} {ds : List Nat} {c : Nat} {wr w1 : World} {j j' : Nat}
    (h : Gath w St (I j) v ds c wr) (h1 : I j' w1) (hf : Fr (fun k => ¬ St k) wr w1) : Gath w St (I j') v ds c w1 where
  size := Nat.le_trans h.size hf.size
  bo := h.bo.fr hf fun hs => by have := H.low _ hs; omega
  bc := h.bc.fr hf fun hs => by have := H.low _ hs; omega
  own := h.own.fr (hf.mono fun k _ hk hs => by have := H.low _ hs; omega)
  fr := h.fr.comp hf fun _ _ hk => ⟨hk, hk.2⟩
  inv := h1
theorem Gath.drew {w : World} {St : Nat → Prop} {I : Nat → World → Prop} {P : Program} {k : FuncId} {caps : Array Value} {n : Nat} {f : Nat → Nat} (H : At P k caps n f St w.heap.size I) {v : Value} {ds : List Nat} {c : Nat} {wr : World} {j : Nat}
    (h : Gath w St (I j) v ds c wr) : Gath w St (I j) v ds c wr.drew := ⟨h.size, h.bo, h.bc, h.own.fr (Fr.refl _ _).drew, h.fr.drew, H.keep _ _ _ h.inv (Fr.refl _ _).drew⟩
/-- Behind a put. -/
theorem Gath.put {P : Program} {k : FuncId} {caps : Array Value} {n : Nat} {f : Nat → Nat} {w : World} {St : Nat → Prop} {I : Nat → World → Prop} (H : At P k caps n f St w.heap.size I) {v v' : Value} {ds : List Nat} {c x : Nat} {wr w1 : World} {j : Nat}
    (h : Gath w St (I j) v ds c wr) (h1 : Box w1 w.heap.size 23 v') (h2 : Box w1 (w.heap.size + 1) 85 (.int .u64 ((x / LB : Nat) : Int)))
    (h3 : Own Lm 62 (fun k => w.heap.size + 2 ≤ k) w1 v' (ds ++ [x % LB])) (h4 : Fr (fun k => k < w.heap.size + 2 ∧ k ≠ w.heap.size ∧ k ≠ w.heap.size + 1) wr w1) :
    Gath w St (I j) v' (ds ++ [x % LB]) (x / LB) w1 where
  size := Nat.le_trans h.size h4.size
  bo := h1
  bc := h2
  own := h3
  fr := h.fr.comp h4 fun k hk hr => ⟨hr, by omega⟩
  inv := H.keep _ _ _ h.inv (h4.mono fun k _ hk => by omega)

/-- What has been put, and the carry, come to what was asked for. -/
def GN (f : Nat → Nat) (j : Nat) (ds : List Nat) (c : Nat) : Prop := ds.length = j ∧ c < LB ∧ (∀ d ∈ ds, d < LB) ∧ ofB LB ds + LB ^ j * c = sumTo LB f j
theorem GN.step {f : Nat → Nat} {j : Nat} {ds : List Nat} {c : Nat} (h : GN f j ds c) (hf : f j ≤ 18446744069414584320) : f j + c < 18446744073709551616 ∧ GN f (j + 1) (ds ++ [(f j + c) % LB]) ((f j + c) / LB) := by
  obtain ⟨h1, h2, h3, h4⟩ := h
  have h2' : c < 4294967296 := h2
  have hs : f j + c < 18446744073709551616 := by omega
  refine ⟨hs, by simp [h1], ?_, ?_, ?_⟩
  · exact Nat.div_lt_of_lt_mul (by unfold LB; omega)
  · intro d hd
    rcases List.mem_append.1 hd with hd | hd
    · exact h3 d hd
    · simp at hd; subst hd; exact Nat.mod_lt _ LBpos
  · rw [ofB_snoc, sumTo, h1, ← h4, Nat.pow_succ, Nat.add_assoc, Nat.add_assoc, Nat.mul_assoc, ← Nat.mul_add, ← Nat.mul_add, Nat.mod_add_div, Nat.add_comm c]
/-- The same of the carry that is left. -/
def GC (V : Nat) (ds : List Nat) (c : Nat) : Prop := (∀ d ∈ ds, d < LB) ∧ ofB LB ds + LB ^ ds.length * c = V
theorem GC.step {V : Nat} {ds : List Nat} {c : Nat} (h : GC V ds c) : GC V (ds ++ [c % LB]) (c / LB) := by
  refine ⟨fun d hd => ?_, ?_⟩
  · rcases List.mem_append.1 hd with hd | hd
    · exact h.1 d hd
    · simp at hd; subst hd; exact Nat.mod_lt _ LBpos
  · rw [ofB_snoc, ← h.2, List.length_append, List.length_singleton, Nat.pow_succ, Nat.add_assoc, Nat.mul_assoc, ← Nat.mul_add, Nat.mod_add_div]

set_option maxHeartbeats 1000000 in
theorem gather_calls (w : World) (n : Nat) (hn : n ≤ 1099511627000) (k : FuncId) (caps : Array Value) (f : Nat → Nat) (St : Nat → Prop) (I : Nat → World → Prop)
    (H : At Try.prog k caps n f St w.heap.size I) (h0 : I 0 w) :
    Calls Try.prog 87 #[.int .i64 n, .func (.func k) #[] caps] w fun e w' => ∃ v, e = .returned v ∧ Own Lm 62 (fun k => w.heap.size ≤ k) w' v (dg LB (sumTo LB f n)) ∧ Fr (fun k => k < w.heap.size ∧ ¬ St k) w w' := by
  go_enter Try.func87, Try.ntmps87
  go_wp2_with fail
  go_loopw [11] (fun i wr => ∃ (j : Nat) (v : Value) (ds : List Nat) (c : Nat), j ≤ n ∧ i = .int .i64 j ∧ Gath w St (I j) v ds c wr ∧ GN f j ds c) (fun i _ => n - (intOf i).toNat)
  case atStart =>
    refine ⟨0, .slice none 0 0, [], 0, Nat.zero_le _, rfl, ⟨by simp, (Box.new _ _ _).alloc _, by simpa using Box.new (w.alloc _) 85 _, Own.nil _ _ _ _, ((Fr.refl _ _).alloc _).alloc _, H.keep _ _ _ h0 (((Fr.refl _ _).alloc _).alloc _)⟩, rfl, LBpos, by simp, rfl⟩
  case round =>
    obtain ⟨j, v, ds, c, hj, rfl, hG, hN⟩ := hrel
    by_cases hlt : j < n
    · have hstep := hN.step (H.small j hlt)
      obtain ⟨x, hx⟩ : ∃ x, x = f j + c := ⟨_, rfl⟩
      rw [← hx] at hstep
      obtain ⟨hsum, hN1⟩ := hstep
      have hwrap : IntKind.u64.wrap ((f j : Int) + (c : Int)) = (x : Int) := by rw [← Int.natCast_add, ← hx]; exact Int.emod_eq_of_lt (by omega) (by simp [IntKind.bits]; omega)
      have HX := Lib.hid hx
      clear hx
      have hG1 := hG.drew H
      have hcell := hG1.bc.cell
      have hsz : w.heap.size ≤ wr.drew.heap.size := by have := hG1.size; omega
      have hk := H.enter
      go_wp2_with fail
      go_region_with (first
        | ((with_reducible refine (H.call j _ hlt hG1.inv hsz).mono ?_); rintro e w2 ⟨rfl, hi, hfr⟩; have hG2 := hG1.called H hi hfr; have hcell2 := hG2.bc.cell)
        | ((with_reducible refine (put_calls w2 x w.heap.size (w.heap.size + 1) (w.heap.size + 2) (by omega) (by omega) (by omega) hG2.size v _ ds hG2.bo hG2.bc hG2.own ?_).mono ?_); exact Nat.le_trans (Nat.le_of_eq hN.1) (by omega); rintro e w3 ⟨rfl, v', b1, b2, o1, f1⟩; have hG3 := hG2.put H b1 b2 o1 f1))
      all_goals
        go_wp2_with fail
        go_roundw
        case rel => exact ⟨j + 1, v', _, _, by omega, by go_num, hG3, hN1⟩
        case measure => simp [intOf]; omega
    · obtain rfl : j = n := by omega
      have hC : GC (sumTo LB f j) ds c := ⟨hN.2.2.1, by rw [hN.1]; exact hN.2.2.2⟩
      have hlen : ds.length + c ≤ 1099511627000 + 4294967296 := by have h1 := hN.1; have h2 : c < 4294967296 := hN.2.1; omega
      clear hN
      go_wp2_with fail
      go_loopg [22] c (fun g _ wr => ∃ (v : Value) (ds : List Nat), Gath w St (I j) v ds g wr ∧ GC (sumTo LB f j) ds g ∧ ds.length + g ≤ 1099511627000 + 4294967296)
      case atStart => exact ⟨v, ds, hG, hC, hlen⟩
      case round =>
        clear hG hC hlen
        obtain ⟨v, ds, hG, hC, hlen⟩ := hrel
        have hcell := hG.bc.cell
        by_cases h0 : 0 < gk
        · go_wp2_with ((with_reducible refine (put_calls wr gk w.heap.size (w.heap.size + 1) (w.heap.size + 2) (by omega) (by omega) (by omega) hG.size v _ ds hG.bo hG.bc hG.own (by omega)).mono ?_); rintro e w3 ⟨rfl, v', b1, b2, o1, f1⟩)
          have hG3 := hG.put H b1 b2 o1 f1
          have hdv : gk / LB < gk := Nat.div_lt_self h0 (by decide)
          go_roundg (gk / LB)
          case rel => exact ⟨v', _, hG3, hC.step, by simp; omega⟩
          case measure => exact hdv
        · obtain rfl : gk = 0 := by omega
          obtain ⟨A, cc, rfl, hcap, hmax, hdl⟩ := hG.own.slice
          have hc5 := hG.bo.cell
          have hV : ofB LB ds = sumTo LB f j := by have := hC.2; simpa using this
          have hdl2 : (dg LB (ofB LB ds)).length ≤ ds.length := dg_len_le LB2 (ofB_lt hC.1)
          have hle : ((dg LB (ofB LB ds)).length : Int) ≤ (cc : Int) := by omega
          have HV := Lib.hid hV
          clear hV
          go_wp2_with fail
          go_quiet ((go_at_call 74; exact Calls.quiet_of_same (top_calls _ _ _ (hG.own.sl.fr ((Fr.refl _ _).drewN _)))))
          go_wp2_with fail
          go_ret
          have htk : ds.take (dg LB (ofB LB ds)).length = dg LB (ofB LB ds) := by
            have h1 := ofB_dg LB2 (ofB LB ds)
            have h2 := dg_top' LB2 hC.1
            exact h2.symm
          have ho := (hG.own.take hdl2).mono (T := fun k => w.heap.size ≤ k) (fun k hk => by omega)
          rw [htk, HV.out] at ho
          refine ⟨_, rfl, ?_, ?_⟩
          · rw [show dg LB (val ds) = dg LB (sumTo LB f j) from by rw [← HV.out]]
            exact ho.fr ((Fr.refl _ _).drewN _)
          · exact hG.fr.drewN _
end Go.Proofs.Ytodpbkcdcchljaa
