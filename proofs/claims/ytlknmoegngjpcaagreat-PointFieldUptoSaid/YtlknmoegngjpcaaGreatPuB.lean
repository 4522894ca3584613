import Derived.Test.YtlknmoegngjpcaaGreatPtZ
set_option linter.unusedSimpArgs false
set_option linter.unusedVariables false

/- tensor.Same of tensors that are the same. -/
namespace Go.Proofs.YtlknmoegngjpcaaGreat
open Go.RowKit

set_option maxHeartbeats 4000000 in
theorem eqfunc_y {S T : Nat → Prop} (w : World) (va vb : Value) (ea eb : List RatL) (L : Nat) (ha : Sl Rm S w va ea) (hb : Sl Rm T w vb eb) (hq : Hid (ea.map qOf = eb.map qOf)) (hLa : Hid (∀ x ∈ ea, x.2.1.length ≤ L ∧ x.2.2.length ≤ L)) (hLb : Hid (∀ x ∈ eb, x.2.1.length ≤ L ∧ x.2.2.length ≤ L)) (hL1 : 1 ≤ L) (hl : L ≤ 104857600) :
    Calls Tryz.prog 81 #[va, vb, .func (.func 82) #[] #[]] w fun e w' => e = .returned (.bool true) ∧ Fr (fun k => k < w.heap.size) w w' := by
  obtain ⟨A, c, rfl, _, _, hla⟩ := ha.slice
  obtain ⟨B, d, rfl, _, _, hlb⟩ := hb.slice
  have HA := Lib.hid (ha.low Rm_pos)
  have HB := Lib.hid (hb.low Rm_pos)
  have hlen := Lib.hid (show ea.length = eb.length by have := congrArg List.length hq.out; rwa [List.length_map, List.length_map] at this)
  have hli : ((ea.length : Int) == (eb.length : Int)) = true := by simp [hlen.out]
  clear ha hb
  go_enter Tryz.func81, Tryz.ntmps81
  go_wp2_with fail
  simp only [show (((ea.length : Int) != (eb.length : Int)) = false) by rw [bne, hli]; rfl]
  clear hli
  go_loopw [17] (fun k W => ∃ (j : Nat), k = .int .i64 j ∧ j ≤ ea.length ∧ Fr (fun k => k < w.heap.size) w W) (fun k _ => ea.length - (intOf k).toNat)
  case atStart => exact ⟨0, rfl, by omega, Fr.refl _ _⟩
  case round =>
    obtain ⟨j, rfl, hj, F⟩ := hrel
    by_cases hlt : j < ea.length
    · have hlt2 : j < eb.length := by have := hlen.out; omega
      obtain ⟨ad, P, n, d1, Q, m, o, rfl, hS, g0, g1, g2, r1, r2⟩ := Rm_get (HA.out.fr F) hlt
      obtain ⟨ae, P', n', d2, Q', m', o', rfl, hS', k0, k1, k2, q1, q2⟩ := Rm_get (HB.out.fr F) hlt2
      have HQ := Lib.hid (show decide (qOf ea[j] = qOf eb[j]) = true from decide_eq_true (by
        have h := hq.out
        have h1 : (ea.map qOf)[j]'(by rw [List.length_map]; exact hlt) = (eb.map qOf)[j]'(by rw [List.length_map]; exact hlt2) := by simp only [h]
        rwa [List.getElem_map, List.getElem_map] at h1))
      have hx := hLa.out _ (List.getElem_mem hlt)
      have hy := hLb.out _ (List.getElem_mem hlt2)
      generalize ea[j] = x at g0 r1 r2 hx HQ
      generalize eb[j] = y at k0 q1 q2 hy HQ
      have al := fun R => ((Fr.refl R wr).alloc (.cells #[.bool x.1, .slice P n d1, .slice Q m o] 51)).alloc (.cells #[.bool y.1, .slice P' n' d2, .slice Q' m' o'] 51)
      have x8 := (Box3.new wr 51 (.bool x.1) (.slice P n d1) (.slice Q m o)).alloc (.cells #[.bool y.1, .slice P' n' d2, .slice Q' m' o'] 51)
      have x9 := Box3.new (wr.alloc (.cells #[.bool x.1, .slice P n d1, .slice Q m o] 51)) 51 (.bool y.1) (.slice P' n' d2) (.slice Q' m' o')
      simp only [World.size_alloc] at x9
      have H1 := Lib.hid (ri_x (r1.keep' Lm_pos (al _)) (r2.keep' Lm_pos (al _)) hx)
      have H2 := Lib.hid (ri_x (q1.keep' Lm_pos (al _)) (q2.keep' Lm_pos (al _)) hy)
      replace F := fr_then F (al _)
      have e0 := x8.c0
      have e1 := x8.c1
      have e2 := x8.c2
      have f0 := x9.c0
      have f1 := x9.c1
      have f2 := x9.c2
      have k0' := World.cell?_of_block (w := wr) (w' := wr.alloc (.cells #[.bool x.1, .slice P n d1, .slice Q m o] 51)) (Below.heap_alloc _ _ _ (World.block_lt_of_cell? _ _ k0))
      have z0 := ((Fr.refl (fun _ => True) wr).alloc (.cells #[.bool x.1, .slice P n d1, .slice Q m o] 51)).cell k0 trivial
      have z1 := ((Fr.refl (fun _ => True) wr).alloc (.cells #[.bool x.1, .slice P n d1, .slice Q m o] 51)).cell k1 trivial
      have z2 := ((Fr.refl (fun _ => True) wr).alloc (.cells #[.bool x.1, .slice P n d1, .slice Q m o] 51)).cell k2 trivial
      clear r1 r2 q1 q2 hx hy al k0'
      go_wp2_with fail
      with_reducible refine (rsame_z _ x.1 y.1 (.slice P n d1) (.slice Q m o) (.slice P' n' d2) (.slice Q' m' o') (qOf x) (qOf y) _ _ _ _ L true HQ H1.out H2.out hL1 hl).mono ?_
      rintro e u1 ⟨rfl, hf⟩
      replace F := fr_then F hf
      clear hf g0 g1 g2 k0 k1 k2 e0 e1 e2 f0 f1 f2 z0 z1 z2 x8 x9 H1 H2
      go_wp2_with fail
      go_roundw
      case rel => exact ⟨j + 1, by go_num, by omega, F⟩
      case measure => first | (simp [intOf]; done) | (simp [intOf]; omega)
    · obtain rfl : j = ea.length := by omega
      go_wp2_with fail
      go_ret
      exact ⟨rfl, F⟩
theorem tsame_u {w : World} {sha shb : List Int} {ea eb : List RatL} {a b c d : Value} {L : Nat} (h : TV sha ea w a b) (g : TV shb eb w c d) (fa : Hid (Fit sha ea L)) (fb : Hid (Fit shb eb L)) (hs : sha = shb) (hq : Hid (ea.map qOf = eb.map qOf)) :
    Calls Tryz.prog 40 #[.agg #[a, b], .agg #[c, d]] w (Ret w fun _ v => v = .bool true) := by
  subst hs
  refine Calls.mono (show Calls Tryz.prog 40 #[.agg #[a, b], .agg #[c, d]] w (fun e w' => e = .returned (.bool true) ∧ Fr (fun k => k < w.heap.size) w w') from ?_) fun _ _ h => Ret.eq h.1 h.2
  obtain ⟨⟨A, i, j, rfl⟩, ⟨B, k, l, rfl⟩⟩ := h.form
  obtain ⟨⟨A', i', j', rfl⟩, ⟨B', k', l', rfl⟩⟩ := g.form
  have F := ((Fr.refl (fun k => k < w.heap.size) w).alloc (.cells #[.slice A i j, .slice B k l] 26)).alloc (.cells #[.slice A' i' j', .slice B' k' l'] 26)
  have x0 := (Box2.new w 26 (.slice A i j) (.slice B k l)).alloc (.cells #[.slice A' i' j', .slice B' k' l'] 26)
  have x1 := Box2.new (w.alloc (.cells #[.slice A i j, .slice B k l] 26)) 26 (.slice A' i' j') (.slice B' k' l')
  simp only [World.size_alloc] at x1
  have H := h.hold.keep F
  have G := g.hold.keep F
  clear h g
  have d0 := x0.c0
  have e0 := x1.c0
  go_enter Tryz.func40, Tryz.ntmps40
  go_wp2_with fail
  have p := Lib.hid (slequal_calls _ (.slice A i j) (.slice A' i' j') sha sha H.now.1 G.now.1)
  rw [show decide (sha = sha) = true from decide_eq_true rfl] at p
  with_reducible refine p.out.mono ?_
  rintro e w1 ⟨rfl, hf⟩
  have HF := fun R => hf.mono (T := R) fun _ _ _ => trivial
  replace x0 := x0.keep (HF _)
  replace x1 := x1.keep (HF _)
  replace H := H.keep (HF _)
  replace G := G.keep (HF _)
  replace F := fr_then F (HF _)
  clear hf HF p d0 e0
  have d1 := x0.c1
  have e1 := x1.c1
  go_wp2_with fail
  have p := Lib.hid (eqfunc_y _ (.slice B k l) (.slice B' k' l') ea eb L H.now.2 G.now.2 hq (Lib.hid fa.out.lx) (Lib.hid fb.out.lx) fa.out.one (by have := fa.out.top; omega))
  with_reducible refine p.out.mono ?_
  rintro e w2 ⟨rfl, hf⟩
  go_wp2_with fail
  go_ret
  exact ⟨rfl, fr_then F hf⟩
end Go.Proofs.YtlknmoegngjpcaaGreat
