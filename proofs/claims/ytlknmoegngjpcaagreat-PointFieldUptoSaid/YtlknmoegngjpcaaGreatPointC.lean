/- Texts merged: PtK, PtL, PtM, Sx, PtN, PtO, PtP. -/
import Derived.Test.YtlknmoegngjpcaaGreatPointB
import Derived.Test.YtlknmoegngjpcaaGreatFacts
set_option linter.unusedSimpArgs false
set_option linter.unusedVariables false

/- law08: first, is, told. -/
namespace Go.Proofs.YtlknmoegngjpcaaGreat
open Go.RowKit

/-- law08's is: no error, and the tensor is the document's. -/
theorem lis_t {S T U V : Nat → Prop} (w : World) (v1 v2 u1 u2 : Value) (sh : List Int) (qs : List Rat) (L K : Nat) (hs1 : Sl Im S w v1 sh) (hq : Sl (Rk K) T w v2 qs) (hs2 : Sl Im U w u1 sh) (he : Sl Rm V w u2 (qs.map canR)) (hl : ∀ q ∈ qs, (dg LB q.num.natAbs).length ≤ L ∧ (dg LB q.den).length ≤ L) (hL : L ≤ 1099511620) :
    Calls Tryz.prog 48 #[.agg #[u1, u2], .int .i64 0, .agg #[v1, v2]] w fun e w' => e = .returned (.bool true) ∧ Fr (fun k => k < w.heap.size) w w' := by
  obtain ⟨A, c, rfl, _, _, _⟩ := hs1.slice
  obtain ⟨A', c', rfl, _, _, hlq⟩ := hq.slice
  obtain ⟨B, d, rfl, _, _, _⟩ := hs2.slice
  obtain ⟨B', n', d', rfl⟩ := he.form
  have F := ((Fr.refl (fun k => k < w.heap.size) w).alloc (.cells #[.slice B sh.length d, .slice B' n' d'] 26)).alloc (.cells #[.slice A sh.length c, .slice A' qs.length c'] 32)
  have x0 := (Box2.new w 26 (.slice B sh.length d) (.slice B' n' d')).alloc (.cells #[.slice A sh.length c, .slice A' qs.length c'] 32)
  have x1 := Box2.new (w.alloc (.cells #[.slice B sh.length d, .slice B' n' d'] 26)) 32 (.slice A sh.length c) (.slice A' qs.length c')
  simp only [World.size_alloc] at x1
  have a0 := x0.c0
  have a1 := x0.c1
  have b0 := x1.c0
  have b1 := x1.c1
  have H1 := Lib.hid (hs1.low Im_pos)
  have H2 := Lib.hid (hq.low (Rk_pos K))
  have H3 := Lib.hid (hs2.low Im_pos)
  have H4 := Lib.hid (he.low Rm_pos)
  have HL := Lib.hid hl
  clear hs1 hq hs2 he hl
  go_enter Tryz.func48, Tryz.ntmps48
  go_wp2_with fail
  with_reducible refine (tis_t _ (.slice A sh.length c) (.slice A' qs.length c') (.slice B sh.length d) (.slice B' n' d') sh qs L K (H1.out.fr F) (H2.out.fr F) (H3.out.fr F) (H4.out.fr F) HL.out hL).mono ?_
  rintro e w1 ⟨rfl, hf⟩
  go_wp2_with fail
  go_ret
  exact ⟨rfl, fr_then F hf⟩
theorem told_no (w : World) (r : Int) (h0 : r ≠ 0) (A B : Option Addr) (n c m d : Nat) :
    Calls Tryz.prog 17 #[.agg #[.slice none 0 0, .slice none 0 0], .int .i64 r, .agg #[.slice A n c, .slice B m d], .int .i64 r] w fun e w' => e = .returned (.bool true) ∧ Fr (fun k => k < w.heap.size) w w' := by
  have F := ((Fr.refl (fun k => k < w.heap.size) w).alloc (.cells #[.slice none 0 0, .slice none 0 0] 26)).alloc (.cells #[.slice A n c, .slice B m d] 32)
  have x0 := (Box2.new w 26 (.slice none 0 0) (.slice none 0 0)).alloc (.cells #[.slice A n c, .slice B m d] 32)
  have a0 := x0.c0
  have a1 := x0.c1
  have hb0 : (r == 0) = false := beq_eq_false_iff_ne.2 h0
  go_enter Tryz.func17, Tryz.ntmps17
  go_wp2_with fail
  with_reducible refine (empty_t _).mono ?_
  rintro e w1 ⟨rfl, hf⟩
  go_wp2_with fail
  go_ret
  exact ⟨rfl, fr_then F hf⟩
theorem told_yes {S T U V : Nat → Prop} (w : World) (v1 v2 u1 u2 : Value) (sh : List Int) (qs : List Rat) (L K : Nat) (hs1 : Sl Im S w v1 sh) (hq : Sl (Rk K) T w v2 qs) (hs2 : Sl Im U w u1 sh) (he : Sl Rm V w u2 (qs.map canR)) (hl : ∀ q ∈ qs, (dg LB q.num.natAbs).length ≤ L ∧ (dg LB q.den).length ≤ L) (hL : L ≤ 1099511620) :
    Calls Tryz.prog 17 #[.agg #[u1, u2], .int .i64 0, .agg #[v1, v2], .int .i64 0] w fun e w' => e = .returned (.bool true) ∧ Fr (fun k => k < w.heap.size) w w' := by
  obtain ⟨A, c, rfl, _, _, _⟩ := hs1.slice
  obtain ⟨A', c', rfl, _, _, hlq⟩ := hq.slice
  obtain ⟨B, d, rfl, _, _, _⟩ := hs2.slice
  obtain ⟨B', n', d', rfl⟩ := he.form
  have F := ((Fr.refl (fun k => k < w.heap.size) w).alloc (.cells #[.slice B sh.length d, .slice B' n' d'] 26)).alloc (.cells #[.slice A sh.length c, .slice A' qs.length c'] 32)
  have x0 := (Box2.new w 26 (.slice B sh.length d) (.slice B' n' d')).alloc (.cells #[.slice A sh.length c, .slice A' qs.length c'] 32)
  have x1 := Box2.new (w.alloc (.cells #[.slice B sh.length d, .slice B' n' d'] 26)) 32 (.slice A sh.length c) (.slice A' qs.length c')
  simp only [World.size_alloc] at x1
  have a0 := x0.c0
  have a1 := x0.c1
  have b0 := x1.c0
  have b1 := x1.c1
  have H1 := Lib.hid (hs1.low Im_pos)
  have H2 := Lib.hid (hq.low (Rk_pos K))
  have H3 := Lib.hid (hs2.low Im_pos)
  have H4 := Lib.hid (he.low Rm_pos)
  have HL := Lib.hid hl
  clear hs1 hq hs2 he hl
  go_enter Tryz.func17, Tryz.ntmps17
  go_wp2_with fail
  with_reducible refine (lis_t _ (.slice A sh.length c) (.slice A' qs.length c') (.slice B sh.length d) (.slice B' n' d') sh qs L K (H1.out.fr F) (H2.out.fr F) (H3.out.fr F) (H4.out.fr F) HL.out hL).mono ?_
  rintro e w1 ⟨rfl, hf⟩
  go_wp2_with fail
  go_ret
  exact ⟨rfl, fr_then F hf⟩
theorem first_t {S T U V : Nat → Prop} (w : World) (va vea vb veb : Value) (sha shb : List Int) (ea eb : List RatL) (L : Nat) (r1 r2 r : Int) (h1 : Hid (mayT sha ea = r1)) (h2 : Hid (mayT shb eb = r2)) (hr : Hid ((if r1 ≠ 0 then r1 else r2) = r)) (ha : Sl Im S w va sha) (hea : Sl Rm T w vea ea) (hb : Sl Im U w vb shb) (heb : Sl Rm V w veb eb)
    (hLa : Hid (∀ x ∈ ea, x.2.1.length ≤ L ∧ x.2.2.length ≤ L)) (hLb : Hid (∀ x ∈ eb, x.2.1.length ≤ L ∧ x.2.2.length ≤ L)) (hL1 : 1 ≤ L) (hl : L ≤ 104857600) :
    Calls Tryz.prog 27 #[.agg #[va, vea], .agg #[vb, veb]] w fun e w' => e = .returned (.int .i64 r) ∧ Fr (fun k => k < w.heap.size) w w' := by
  obtain ⟨A, c, rfl, _, _, _⟩ := ha.slice
  obtain ⟨A', c', rfl, _, _, _⟩ := hea.slice
  obtain ⟨B, d, rfl, _, _, _⟩ := hb.slice
  obtain ⟨B', d', rfl, _, _, _⟩ := heb.slice
  have F := ((Fr.refl (fun k => k < w.heap.size) w).alloc (.cells #[.slice A sha.length c, .slice A' ea.length c'] 26)).alloc (.cells #[.slice B shb.length d, .slice B' eb.length d'] 26)
  have x0 := (Box2.new w 26 (.slice A sha.length c) (.slice A' ea.length c')).alloc (.cells #[.slice B shb.length d, .slice B' eb.length d'] 26)
  have x1 := Box2.new (w.alloc (.cells #[.slice A sha.length c, .slice A' ea.length c'] 26)) 26 (.slice B shb.length d) (.slice B' eb.length d')
  simp only [World.size_alloc] at x1
  have a0 := x0.c0
  have a1 := x0.c1
  have HS := Lib.hid (ha.low Im_pos)
  have HE := Lib.hid (hea.low Rm_pos)
  have HS2 := Lib.hid (hb.low Im_pos)
  have HE2 := Lib.hid (heb.low Rm_pos)
  clear ha hea hb heb
  go_enter Tryz.func27, Tryz.ntmps27
  go_wp2_with fail
  with_reducible refine (rmay_h _ (.slice A sha.length c) (.slice A' ea.length c') sha ea L r1 h1 (HS.out.fr F) (HE.out.fr F) hLa.out hL1 hl).mono ?_
  rintro e w1 ⟨rfl, hf⟩
  replace x1 := x1.keep hf
  replace F := fr_then F hf
  clear hf a0 a1 x0
  by_cases h0 : r1 = 0
  · subst h0
    have hr2 : r2 = r := by rw [← hr.out, if_neg (by decide)]
    clear hr
    subst hr2
    have b0 := x1.c0
    have b1 := x1.c1
    go_wp2_with fail
    with_reducible refine (rmay_h _ (.slice B shb.length d) (.slice B' eb.length d') shb eb L r2 h2 (HS2.out.fr F) (HE2.out.fr F) hLb.out hL1 hl).mono ?_
    rintro e w2 ⟨rfl, hf⟩
    go_wp2_with fail
    go_ret
    exact ⟨rfl, fr_then F hf⟩
  · have hb0 : (r1 == 0) = false := beq_eq_false_iff_ne.2 h0
    have hr1 : r1 = r := by rw [← hr.out, if_pos h0]
    clear hr
    subst hr1
    go_wp2_with fail
    go_ret
    exact ⟨rfl, F⟩
end Go.Proofs.YtlknmoegngjpcaaGreat


/- law08: few. -/
namespace Go.Proofs.YtlknmoegngjpcaaGreat
open Go.RowKit

def fewB (es : List RatL) : Bool := decide (es.length ≤ 64 ∧ ∀ x ∈ es, x.2.1.length ≤ 6 ∧ x.2.2.length ≤ 6)

set_option maxHeartbeats 4000000 in
theorem few_t {S T : Nat → Prop} (w : World) (vs ve : Value) (es : List RatL) (b : Bool) (hb : Hid (fewB es = b)) (hvs : ∃ A n c, vs = .slice A n c) (he : Sl Rm T w ve es) :
    Calls Tryz.prog 11 #[.agg #[vs, ve]] w fun e w' => e = .returned (.bool b) ∧ Fr (fun k => k < w.heap.size) w w' := by
  obtain ⟨A, n, c, rfl⟩ := hvs
  obtain ⟨A', c', rfl, _, _, hly⟩ := he.slice
  have F := (Fr.refl (fun k => k < w.heap.size) w).alloc (.cells #[.slice A n c, .slice A' es.length c'] 26)
  have x0 := Box2.new w 26 (.slice A n c) (.slice A' es.length c')
  have HE := Lib.hid (he.low Rm_pos)
  clear he
  have a1 := x0.c1
  go_enter Tryz.func11, Tryz.ntmps11
  by_cases h64 : 64 < es.length
  · have hb0 : b = false := by rw [← hb.out]; exact decide_eq_false fun h => by omega
    clear hb
    subst hb0
    go_wp2_with fail
    go_ret
    exact ⟨rfl, F⟩
  go_wp2_with fail
  go_loopw [3] (fun k W => ∃ (j : Nat), k = .int .i64 j ∧ j ≤ es.length ∧ Hid (∀ i (hi : i < es.length), i < j → es[i].2.1.length ≤ 6 ∧ es[i].2.2.length ≤ 6) ∧ Box2 W w.heap.size 26 (.slice A n c) (.slice A' es.length c') ∧ Fr (fun k => k < w.heap.size) w W) (fun k _ => es.length - (intOf k).toNat)
  case atStart => exact ⟨0, rfl, by omega, Lib.hid (fun i hi h => by omega), x0, F⟩
  case round =>
    clear x0 F a1
    obtain ⟨j, rfl, hj, HP, x0, F⟩ := hrel
    have a1 := x0.c1
    by_cases hlt : j < es.length
    · obtain ⟨ad, P, m, d, Q, k, o, rfl, hS, g0, g1, g2, r1, r2⟩ := Rm_get (HE.out.fr F) hlt
      obtain ⟨l1, hl1⟩ : ∃ l, es[j].2.1.length = l := ⟨_, rfl⟩
      obtain ⟨l2, hl2⟩ : ∃ l, es[j].2.2.length = l := ⟨_, rfl⟩
      obtain ⟨P1, y1, e1, _, _, _⟩ := r1.slice
      obtain ⟨Q1, y2, e2, _, _, _⟩ := r2.slice
      cases e1
      cases e2
      rw [hl1] at g1
      rw [hl2] at g2
      have H1 := Lib.hid hl1
      have H2 := Lib.hid hl2
      clear hl1 hl2 r1 r2
      by_cases h1 : 6 < l1
      · have hb0 : b = false := by rw [← hb.out]; exact decide_eq_false fun h => by have := (h.2 _ (List.getElem_mem hlt)).1; rw [H1.out] at this; omega
        clear hb
        subst hb0
        go_wp2_with fail
        go_ret
        exact ⟨rfl, F⟩
      · by_cases h2 : 6 < l2
        · have hb0 : b = false := by rw [← hb.out]; exact decide_eq_false fun h => by have := (h.2 _ (List.getElem_mem hlt)).2; rw [H2.out] at this; omega
          clear hb
          subst hb0
          go_wp2_with fail
          go_ret
          exact ⟨rfl, F⟩
        · have HP' := Lib.hid (show ∀ i (hi : i < es.length), i < j + 1 → es[i].2.1.length ≤ 6 ∧ es[i].2.2.length ≤ 6 from fun i hi h => by
            by_cases hij : i = j
            · subst hij
              rw [H1.out, H2.out]
              omega
            · exact HP.out i hi (by omega))
          go_wp2_with fail
          go_roundw
          case rel => exact ⟨j + 1, by go_num, by omega, HP', x0, F⟩
          case measure => first | (simp [intOf]; done) | (simp [intOf]; omega)
    · obtain rfl : j = es.length := by omega
      have hb0 : b = true := by
        rw [← hb.out]
        refine decide_eq_true ⟨by omega, fun x hx => ?_⟩
        obtain ⟨i, hi, rfl⟩ := List.mem_iff_getElem.1 hx
        exact HP.out i hi hi
      clear hb
      subst hb0
      go_wp2_with fail
      go_ret
      exact ⟨rfl, F⟩
end Go.Proofs.YtlknmoegngjpcaaGreat


/- The document's Sub over the elements: printed by gen_ptm.py. -/
namespace Go.Proofs.YtlknmoegngjpcaaGreat
open Go.RowKit

def RefV (sh : List Int) (qs : List Rat) (K : Nat) (r : Int) (u : World) (v : Value) : Prop := ∃ A i j B k l, v = .tuple #[.agg #[.slice A i j, .slice B k l], .int .i64 r] ∧ (r = 0 → Sl Im (fun _ => True) u (.slice A i j) sh ∧ Sl (Rk K) (fun _ => True) u (.slice B k l) qs)
theorem RefV.keep {sh : List Int} {qs : List Rat} {K : Nat} {r : Int} {v : Value} {u u' : World} (hf : Fr (fun k => k < u.heap.size) u u') (h : RefV sh qs K r u v) : RefV sh qs K r u' v := by
  obtain ⟨A, i, j, B, k, l, e, h2⟩ := h
  exact ⟨A, i, j, B, k, l, e, fun h => ⟨(h2 h).1.keep' Im_pos hf, (h2 h).2.keep' (Rk_pos K) hf⟩⟩
theorem Rk_notin2 {K : Nat} {S : Nat → Prop} {w : World} {v : Value} {b : Nat} {t : TypeId} {a1 a2 : Option Addr} {n1 c1 n2 c2 : Nat} {xs : List Rat} (h : Sl (Rk K) S w v xs) (hb : Box2 w b t (.slice a1 n1 c1) (.slice a2 n2 c2)) : Sl (Rk K) (fun j => j ≠ b) w v xs :=
  Sl.notin2 (S := S) (fun x cs ⟨vn, vd, e, hr⟩ => ⟨⟨_, (congrArg (fun l : List Value => l[0]?) e).trans rfl, by simp⟩, ⟨vn, vd, e, ⟨⟨Sl.notin2 (S := S) (fun x cs hc => ⟨⟨_, (congrArg (fun l : List Value => l[0]?) hc.1).trans rfl, by simp⟩, hc⟩) hr.num.sl hb, hr.num.len⟩, ⟨Sl.notin2 (S := S) (fun x cs hc => ⟨⟨_, (congrArg (fun l : List Value => l[0]?) hc.1).trans rfl, by simp⟩, hc⟩) hr.den.sl hb, hr.den.len⟩⟩⟩⟩) h hb

set_option maxHeartbeats 4000000 in
theorem r8sub_t {S T U V : Nat → Prop} (w : World) (vs0 ve us ue : Value) (sh sh2 : List Int) (qs ps : List Rat) (K : Nat) (hs : Sl Im S w vs0 sh) (hq : Sl (Rk K) T w ve qs) (hs2 : Sl Im U w us sh2) (hq2 : Sl (Rk K) V w ue ps) (hsl : sh.length ≤ 1099511627000) (hql : qs.length ≤ 1099511627000) (hsl2 : sh2.length ≤ 1099511627000) (hpl : ps.length ≤ 1099511627000) (hK1 : 1 ≤ K) (hKl : K ≤ 104857600) (r : Int) (hr : Hid ((if sh = sh2 then (0 : Int) else 13) = r)) (hlen : sh = sh2 → qs.length = ps.length) :
    Calls Tryz.prog 29 #[.agg #[vs0, ve], .agg #[us, ue]] w (RefE w sh (List.zipWith (fun (x y : Rat) => x + y) qs (ps.map (fun q => -q))) (4 * K) r) := by
  obtain ⟨A, c, rfl, _, _, hlx⟩ := hs.slice
  obtain ⟨A', c', rfl, _, _, hly⟩ := hq.slice
  obtain ⟨B, d, rfl, _, _, _⟩ := hs2.slice
  obtain ⟨B', d', rfl, _, _, _⟩ := hq2.slice
  have F := (((Fr.refl (fun k => k < w.heap.size) w).alloc (.cells #[.slice A sh.length c, .slice A' qs.length c'] 32)).alloc (.cells #[.slice B sh2.length d, .slice B' ps.length d'] 32)).alloc (.cells #[.slice none 0 0, .slice none 0 0] 32)
  have x0 := ((Box2.new w 32 (.slice A sh.length c) (.slice A' qs.length c')).alloc (.cells #[.slice B sh2.length d, .slice B' ps.length d'] 32)).alloc (.cells #[.slice none 0 0, .slice none 0 0] 32)
  have x1 := (Box2.new (w.alloc (.cells #[.slice A sh.length c, .slice A' qs.length c'] 32)) 32 (.slice B sh2.length d) (.slice B' ps.length d')).alloc (.cells #[.slice none 0 0, .slice none 0 0] 32)
  have b2 := Box2.new ((w.alloc (.cells #[.slice A sh.length c, .slice A' qs.length c'] 32)).alloc (.cells #[.slice B sh2.length d, .slice B' ps.length d'] 32)) 32 (.slice none 0 0) (.slice none 0 0)
  simp only [World.size_alloc] at x1 b2
  have HS := Lib.hid (hs.low Im_pos)
  have HE := Lib.hid (hq.low (Rk_pos K))
  have HS2 := Lib.hid (hs2.low Im_pos)
  have HE2 := Lib.hid (hq2.low (Rk_pos K))
  clear hs hq hs2 hq2
  go_enter Tryz.func29, Tryz.ntmps29
  go_wp2_with fail
  generalize ((w.alloc (.cells #[.slice A sh.length c, .slice A' qs.length c'] 32)).alloc (.cells #[.slice B sh2.length d, .slice B' ps.length d'] 32)).alloc (.cells #[.slice none 0 0, .slice none 0 0] 32) = W0 at F x0 x1 b2 ⊢
  have DR := fun R => (Fr.refl R W0).drew
  replace x0 := x0.keep (DR _)
  replace x1 := x1.keep (DR _)
  replace b2 := b2.keep (DR _)
  replace F := F.drew
  clear DR
  have KS : ∀ u, Fr (fun k => k < W0.drew.heap.size) W0.drew u → u.cell? ⟨w.heap.size, 0, none⟩ = some (.slice A sh.length c) ∧ u.cell? ⟨w.heap.size, 1, none⟩ = some (.slice A' qs.length c') ∧ u.cell? ⟨w.heap.size + 1, 0, none⟩ = some (.slice B sh2.length d) ∧ u.cell? ⟨w.heap.size + 1, 1, none⟩ = some (.slice B' ps.length d') := fun u h => ⟨(x0.keep h).c0, (x0.keep h).c1, (x1.keep h).c0, (x1.keep h).c1⟩
  refine wpTill.begin (fun u => u.cell? ⟨w.heap.size, 0, none⟩ = some (.slice A sh.length c) ∧ u.cell? ⟨w.heap.size, 1, none⟩ = some (.slice A' qs.length c') ∧ u.cell? ⟨w.heap.size + 1, 0, none⟩ = some (.slice B sh2.length d) ∧ u.cell? ⟨w.heap.size + 1, 1, none⟩ = some (.slice B' ps.length d')) 6 (by kernel_rfl) ?_
  change wpTill _ _ _ _ _ _ 8 _ _ _
  refine wpTill.free (jj := 6) (m := 2) [(0, Fact.eq (.agg #[.slice A sh.length c, .slice A' qs.length c'])),
      (1, Fact.eq (.agg #[.slice B sh2.length d, .slice B' ps.length d'])),
      (2, Fact.mem (RefT sh2 (ps.map (fun q => -q)) K) RefT.keep),
      (3, Fact.mem (RefV sh (List.zipWith (fun (x y : Rat) => x + y) qs (ps.map (fun q => -q))) (4 * K) r) RefV.keep),
      (4, Fact.fst 3),
      (5, Fact.snd 3)] [] [0, 0, 2, 7, 15, 15, 63, 127] [] ?_ (by kernel_rfl) (by kernel_rfl) (by kernel_rfl) [(0, some 6), (1, some 7), (2, some 8), (3, some 9), (4, some 10), (5, some 11)] (by kernel_rfl) ?hA ?hQ KS (by kernel_rfl) ?steps ?looses ?cont
  case hQ => exact fun _ _ _ _ _ h => h
  case hA =>
    intro vs
    simp only [fillD, List.foldl_cons, List.foldl_nil, Act.put, List.setIfInBounds_toArray, List.set_cons_zero, List.set_cons_succ]
    exact rfl
  case steps =>
    refine ⟨?_, ?_, ?_, ?_, ?_, ?_, trivial⟩
    · rintro vs u ⟨h0, h1, h2, h3, h4, h5, -⟩ G
      obtain ⟨o0, o1, o2, o3⟩ := KS u G
      exact stepAt.pure (v := .agg #[.slice A sh.length c, .slice A' qs.length c']) rfl rfl (by go_simp) rfl
    · rintro vs u ⟨h0, h1, h2, h3, h4, h5, -⟩ G
      obtain ⟨o0, o1, o2, o3⟩ := KS u G
      exact stepAt.pure (v := .agg #[.slice B sh2.length d, .slice B' ps.length d']) rfl rfl (by go_simp) rfl
    · rintro vs u ⟨h0, h1, h2, h3, h4, h5, -⟩ G
      refine stepAt.call (f := 22) (args := #[vs 1]) rfl rfl (by go_simp) ?_
      rw [show vs 1 = .agg #[.slice B sh2.length d, .slice B' ps.length d'] from h1 rfl]
      refine (r8neg_t u (.slice B sh2.length d) (.slice B' ps.length d') sh2 ps K (HS2.out.fr (fr_then F G)) (HE2.out.fr (fr_then F G)) hsl2 hpl).mono ?_
      rintro e u' ⟨A1, i1, j1, B1, k1, l1, rfl, q1, q2, hf⟩
      exact ⟨_, rfl, hf, _, _, _, _, _, _, rfl, q1, q2⟩
    · rintro vs u ⟨h0, h1, h2, h3, h4, h5, -⟩ G
      refine stepAt.call (f := 28) (args := #[vs 0, vs 2]) rfl rfl (by go_simp) ?_
      obtain ⟨A2, i2, j2, B2, k2, l2, e2, q1, q2⟩ := h2 rfl
      rw [show vs 0 = .agg #[.slice A sh.length c, .slice A' qs.length c'] from h0 rfl, show vs 2 = _ from e2]
      refine (r8add_t u (.slice A sh.length c) (.slice A' qs.length c') (.slice A2 i2 j2) (.slice B2 k2 l2) sh2 (ps.map (fun q => -q)) sh qs K (HS.out.fr (fr_then F G)) (HE.out.fr (fr_then F G)) hsl hql q1 q2 (by rw [List.length_map]; exact hpl) hK1 hKl r hr (fun h => by rw [List.length_map]; exact hlen h)).mono ?_
      rintro e u' ⟨A1, i1, j1, B1, k1, l1, rfl, hyes, hf⟩
      exact ⟨_, rfl, hf, _, _, _, _, _, _, rfl, hyes⟩
    · rintro vs u ⟨h0, h1, h2, h3, h4, h5, -⟩ G
      obtain ⟨A4, n4, c4, B4, m4, k4, e3, -⟩ := h3 rfl
      replace e3 : vs 3 = _ := e3
      exact stepAt.pure (v := .agg #[.slice A4 n4 c4, .slice B4 m4 k4]) rfl rfl (by simp only [e3]; go_simp) ⟨_, _, e3, rfl⟩
    · rintro vs u ⟨h0, h1, h2, h3, h4, h5, -⟩ G
      obtain ⟨A4, n4, c4, B4, m4, k4, e3, -⟩ := h3 rfl
      replace e3 : vs 3 = _ := e3
      exact stepAt.pure (v := .int .i64 r) rfl rfl (by simp only [e3]; go_simp) ⟨_, _, e3, rfl⟩
  case looses =>
    exact trivial
  case cont =>
    rintro vs u ⟨h0, h1, h2, h3, h4, h5, -⟩ G
    obtain ⟨A4, n4, c4, B4, m4, k4, e3, hyes⟩ := h3
    replace e3 : vs 3 = _ := e3
    obtain ⟨x6, z6, a6, e6⟩ := h4
    obtain ⟨x7, z7, a7, e7⟩ := h5
    have a6 := (e3.symm.trans a6)
    have a7 := (e3.symm.trans a7)
    cases a6
    cases a7
    replace e6 : vs 4 = _ := e6
    replace e7 : vs 5 = _ := e7
    simp only [e3, e6, e7]
    clear e3 e6 e7 h0 h1 h2
    replace b2 := b2.keep G
    replace F := fr_then F G
    have g0 := b2.free 0
    have g1 := b2.free 1
    have g2 := b2.c0
    have g3 := b2.c1
    refine wpTill.next 6 rfl (by kernel_rfl) (by rfl) (fun K hK => ?_)
    go_simp
    refine hK _ _ (no_wait (by kernel_rfl)) ?_
    clear hK K
    refine wpTill.next 7 rfl (by kernel_rfl) (by rfl) (fun K hK => ?_)
    go_simp
    refine hK _ _ (no_wait (by kernel_rfl)) ?_
    clear hK K
    refine wpTill.done (by kernel_rfl) ?_
    have B9 := b2.set2 (.slice A4 n4 c4) (.slice B4 m4 k4)
    have F9 := fr_put2 u (w.heap.size + 2) (.slice A4 n4 c4) (.slice B4 m4 k4)
    go_wp2_with fail
    refine bodyPost_ret (results_cell2_tmp rfl rfl B9 Tryz.underlying32 tt2) rfl ?_
    exact ⟨_, _, _, _, _, _, rfl, fun h => ⟨((Im_notin2 (hyes h).1 b2).fr F9).any, ((Rk_notin2 (hyes h).2 b2).fr F9).any⟩, F.comp F9 fun k _ hk => ⟨hk, by omega⟩⟩
end Go.Proofs.YtlknmoegngjpcaaGreat


/- What stays, whatever is laid behind the memory; a guard that forbids; a region in its order, as one of many orders. -/
namespace Go.Proofs.YtlknmoegngjpcaaGreat
open Go.RowKit

/-- Something holds here, and whatever is laid behind the memory. -/
def Hold (p : World → Prop) (W : World) : Prop := ∀ u, Fr (fun k => k < W.heap.size) W u → p u
theorem Hold.at {p : World → Prop} {W u : World} (h : Hold p W) (hf : Fr (fun k => k < W.heap.size) W u) : p u := h u hf
theorem Hold.now {p : World → Prop} {W : World} (h : Hold p W) : p W := h W (Fr.refl _ _)
theorem Hold.keep {p : World → Prop} {W W' : World} (h : Hold p W) (hf : Fr (fun k => k < W.heap.size) W W') : Hold p W' := fun u hu => h u (fr_then hf hu)
theorem Hold.mono {p q : World → Prop} {W : World} (h : Hold p W) (hpq : ∀ u, p u → q u) : Hold q W := fun u hu => hpq u (h u hu)
theorem Hold.and {p q : World → Prop} {W : World} (h : Hold p W) (k : Hold q W) : Hold (fun u => p u ∧ q u) W := fun u hu => ⟨h u hu, k u hu⟩
theorem Hold.sl {α : Type} {K : Kd α} {S : Nat → Prop} {w : World} {v : Value} {xs : List α} (hpos : 0 < K.size) (h : Sl K S w v xs) : Hold (fun u => Sl K S u v xs) w := fun _ hu => h.keep' hpos hu
theorem Hold.own {α : Type} {K : Kd α} {e : TypeId} {S : Nat → Prop} {w : World} {v : Value} {xs : List α} (h : Own K e S w v xs) : Hold (fun u => Own K e S u v xs) w := fun _ hu => h.keep' hu
/-- A fact that holds of a result here and on. -/
abbrev Fact.held (p : World → Value → Prop) : Fact := Fact.one (fun v u => Hold (fun u' => p u' v) u) (fun hf h => h.keep hf)

theorem wanted_not {ops : Array Oper} {A : Act} {o : Oper} {g : Nat} {b : Bool} {t : Tmp} (hg : o.guard = some (g, b)) (hd : dstOf ops g = some t) (ht : A.tmps[t]? = some (.bool (!b))) : Region.wanted o (yielded ops A.tmps) = false := by
  have hy : yielded ops A.tmps g = some (!b) := by
    unfold yielded
    unfold dstOf at hd
    rw [hd, Option.bind_some, ht]
  unfold Region.wanted
  rw [hg]
  simp [hy]
def lowOk (ops : Array Oper) : Bool := (List.range ops.size).all fun i => (afters .any ops i).all fun e => decide (e < i)
theorem wpTill.list {P : Program} {ops : Array Oper} {Q : Exit → Act → World → Prop} {S : World → Prop} {j : Nat} (hlow : lowOk ops = true) : ∀ (l : List Oper) (k n : Nat) (done : Array Bool) (a : Act) (w : World), ops.toList.drop k = l → done.size = ops.size →
    (∀ i, i < ops.size → (done.getD i false = true ↔ i < k)) → wpTill P .any ops Q S j n done a w → wpList P ops Q l a w
  | [], k, n, done, a, w, hl, hs, hd, h => by
    have hk : ops.size ≤ k := by
      have := List.drop_eq_nil_iff.1 hl
      rwa [Array.length_toList] at this
    have hr : Region.ready .any ops done = [] := by
      refine List.eq_nil_iff_forall_not_mem.2 fun i hi => ?_
      obtain ⟨h0, hi', _⟩ := ready_iff.1 hi
      have := (hd i hi').2 (Nat.lt_of_lt_of_le hi' hk)
      rw [getD_tf h0] at this
      cases this
    cases n with
    | zero => exact h.2
    | succ n => exact h.1 hr
  | o :: rest, k, n, done, a, w, hl, hs, hd, h => by
    have hk : k < ops.size := by
      rcases Nat.lt_or_ge k ops.size with h | h
      · exact h
      · rw [List.drop_of_length_le (by rw [Array.length_toList]; exact h)] at hl; cases hl
    have ho : ops[k]? = some o := by
      have : (ops.toList.drop k)[0]? = some o := by rw [hl]; rfl
      rw [List.getElem?_drop, Nat.add_zero, Array.getElem?_toList] at this
      exact this
    have hrest : ops.toList.drop (k + 1) = rest := by
      rw [← List.drop_drop, hl]; rfl
    have hrd : k ∈ Region.ready .any ops done := by
      refine ready_iff.2 ⟨getD_ft (by omega) ?_, hk, fun e he => ?_⟩
      · cases h : done.getD k false with
        | false => rfl
        | true => exact absurd ((hd k hk).1 h) (Nat.lt_irrefl k)
      · have := List.all_eq_true.1 (List.all_eq_true.1 hlow k (List.mem_range.2 hk)) e he
        have hek := of_decide_eq_true this
        exact (hd e (Nat.lt_trans hek hk)).2 hek
    cases n with
    | zero => rw [h.1] at hrd; cases hrd
    | succ n =>
      have h2 := h.2 k hrd
      have hd' : ∀ i, i < ops.size → ((done.setIfInBounds k true).getD i false = true ↔ i < k + 1) := fun i hi => by
        rw [getD_set (by omega), hd i hi]
        omega
      unfold wpOp at h2
      simp only [ho] at h2
      unfold wpList
      split
      · rename_i hw
        rw [if_pos hw] at h2
        rcases h2 with h2 | h2
        · exact .inl (Oper.wp_mono (fun b u hb => wpTill.list hlow rest (k + 1) n _ b u hrest (by simp [hs]) hd' hb.2) h2)
        · exact .inr h2
      · rename_i hw
        rw [if_neg hw] at h2
        exact wpTill.list hlow rest (k + 1) n _ _ w hrest (by simp [hs]) hd' h2.2
theorem wpTill.row {P : Program} {ops : Array Oper} {Q : Exit → Act → World → Prop} (S : World → Prop) (j : Nat) {id : Nat} {a : Act} {w : World} (hlow : lowOk ops = true)
    (h : wpTill P .any ops Q S j ops.size (Array.replicate ops.size false) a w) : (Code.region id ops false).wp P Q a w :=
  wp_region_list (wpTill.list hlow ops.toList 0 ops.size _ a w rfl (by simp) (fun i hi => by simp [hi]) h)
end Go.Proofs.YtlknmoegngjpcaaGreat


/- rat.Pow: printed by gen_ptn.py. -/
namespace Go.Proofs.YtlknmoegngjpcaaGreat
open Go.RowKit

theorem int_pow_nn {z : Int} (h : 0 ≤ z) : ∀ n : Nat, 0 ≤ z ^ n
  | 0 => by rw [Int.pow_zero]; decide
  | n + 1 => by rw [Int.pow_succ]; exact Int.mul_nonneg (int_pow_nn h n) h
theorem int_pow_pos {z : Int} (h : 0 < z) : ∀ n : Nat, 0 < z ^ n
  | 0 => by rw [Int.pow_zero]; decide
  | n + 1 => by rw [Int.pow_succ]; exact Int.mul_pos (int_pow_pos h n) h
theorem int_neg_sq (z : Int) : (-z) ^ 2 = z ^ 2 := by
  rw [Int.pow_succ, Int.pow_succ, Int.pow_zero, Int.pow_succ, Int.pow_succ, Int.pow_zero, Int.one_mul, Int.one_mul, Int.neg_mul_neg]
theorem int_neg_even (z : Int) (n : Nat) : (-z) ^ (2 * n) = z ^ (2 * n) := by rw [Int.pow_mul, int_neg_sq, ← Int.pow_mul]
theorem sg_pow0 {q : Rat} {n : Nat} (h : sg q = false) : sg (q ^ n) = false := by
  unfold sg at *
  have h0 : 0 ≤ q.num := by have := of_decide_eq_false h; omega
  rw [Rat.num_pow]
  exact decide_eq_false (by have := int_pow_nn h0 n; omega)
theorem sg_pow1 {q : Rat} {n : Nat} (h : sg q = true) : sg (q ^ n) = decide (n % 2 = 1) := by
  unfold sg at *
  have h0 : q.num < 0 := of_decide_eq_true h
  rw [Rat.num_pow]
  generalize q.num = z at h0
  obtain ⟨m, rfl⟩ : ∃ m : Int, z = -m := ⟨-z, by omega⟩
  have hp := int_pow_pos (show 0 < m by omega) n
  rcases Nat.mod_two_eq_zero_or_one n with h2 | h2
  · obtain ⟨k, rfl⟩ : ∃ k, n = 2 * k := ⟨n / 2, by omega⟩
    rw [int_neg_even, decide_eq_false (show ¬ 2 * k % 2 = 1 by omega)]
    exact decide_eq_false (by omega)
  · obtain ⟨k, rfl⟩ : ∃ k, n = 2 * k + 1 := ⟨n / 2, by omega⟩
    have h3 : (-m) ^ (2 * k + 1) = -(m ^ (2 * k + 1)) := by rw [Int.pow_succ, Int.pow_succ, int_neg_even, Int.mul_neg]
    rw [h3, decide_eq_true h2]
    exact decide_eq_true (by omega)

set_option maxRecDepth 20000 in
set_option maxHeartbeats 8000000 in
theorem rpow_n {S : Nat → Prop} (w : World) (s : Bool) (vn vd : Value) (q : Rat) (N D L n X : Nat) (h : RI S w s vn vd q N D L) (hL1 : 1 ≤ L) (hl : L ≤ X) (hX : X ≤ 104857600) (hX2 : 2 ≤ X) (hn : n < 9223372036854775808) (hpn : q.num.natAbs ^ n < LB ^ X) (hpd : q.den ^ n < LB ^ X) :
    Calls Tryz.prog 51 #[.agg #[.bool s, vn, vd], .int .i64 n] w fun e w' => ∃ v1 v2, e = .returned (.agg #[.bool (sg (q ^ n)), v1, v2]) ∧ RV (fun k => w.heap.size ≤ k) w' v1 v2 (q ^ n) X ∧ Fr (fun k => k < w.heap.size) w w' := by
  obtain ⟨⟨A1, n1, c1, rfl⟩, ⟨A2, n2, c2, rfl⟩⟩ := h.form
  have F := ((Fr.refl (fun k => k < w.heap.size) w).alloc (.cells #[.bool s, .slice A1 n1 c1, .slice A2 n2 c2] 51)).alloc (.cells #[.bool false, .slice none 0 0, .slice none 0 0] 51)
  have hb := box_nz (w.alloc (.cells #[.bool s, .slice A1 n1 c1, .slice A2 n2 c2] 51))
  have hx := (Box3.new w 51 (.bool s) (.slice A1 n1 c1) (.slice A2 n2 c2)).alloc (.cells #[.bool false, .slice none 0 0, .slice none 0 0] 51)
  have h0 := h.keep F
  simp only [World.size_alloc] at hb
  have HP := Lib.hid (show (q ^ n).num.natAbs = q.num.natAbs ^ n by rw [Rat.num_pow, Int.natAbs_pow])
  have HD := Lib.hid (show (q ^ n).den = q.den ^ n from Rat.den_pow q n)
  have HPN := Lib.hid hpn
  have HPD := Lib.hid hpd
  clear hpn hpd
  go_enter Tryz.func51, Tryz.ntmps51
  go_wp2_with fail
  refine (norm_n _ _ _ _ _ _ _ _ h0 hL1 (by omega)).mono ?_
  rintro e w1 ⟨v1, v2, rfl, h1, hf⟩
  obtain ⟨⟨A3, n3, c3, rfl⟩, ⟨A4, n4, c4, rfl⟩⟩ := h1.form
  have s1 := hf.size
  simp only [World.size_alloc] at h1 s1
  replace hb := hb.keep hf
  replace hx := hx.keep hf
  replace F := fr_then F hf
  clear hf h h0
  go_wp2_with ((with_reducible apply wpList_st3); rfl; rfl; exact hx; exact rat3; rfl; rfl; rfl; intro w2 B2 F2)
  replace h1 := h1.out F2 (b := w.heap.size + 2) (fun k hk => by omega) (by omega)
  replace hb := hb.fr F2 (by omega)
  replace F := F.comp F2 fun k hk h => ⟨h, by omega⟩
  have s2 := F2.size
  clear F2 hx
  have D1 : ∀ R, Fr R w2 w2.drew := fun R => (Fr.refl R w2).drew
  replace h1 := h1.keep (D1 _)
  replace hb := hb.keep (D1 _)
  replace B2 := B2.keep (D1 _)
  replace F := F.drew
  clear D1
  obtain ⟨b, hsq⟩ : ∃ b, sg q = b := ⟨_, rfl⟩
  rw [hsq] at B2 ⊢
  have H1 := Lib.hid h1
  clear h1
  cases b
  · have HSG := Lib.hid (sg_pow0 (n := n) hsq)
    clear hsq
    go_wp2_with fail
    refine wpTill.begin (fun _ => True) 19 (by kernel_rfl) ?_
    change wpTill _ _ _ _ _ _ 21 _ _ _
    refine wpTill.free (jj := 19) (m := 2) [(0, Fact.eq (.pointer (some ⟨w.heap.size, 0, none⟩))),
      (1, Fact.eq (.bool false)),
      (2, Fact.eq (.bool false)),
      (3, Fact.eq undef),
      (4, Fact.eq undef),
      (5, Fact.eq (.bool false)),
      (6, Fact.eq (.bool false)),
      (7, Fact.eq undef),
      (8, Fact.eq undef),
      (9, Fact.eq undef),
      (10, Fact.eq (.bool false)),
      (11, Fact.eq (.pointer (some ⟨w.heap.size, 1, none⟩))),
      (12, Fact.eq (.slice A3 n3 c3)),
      (13, Fact.eq (.int .i64 n)),
      (14, Fact.mem (fun u v => ∃ A i j, v = .slice A i j ∧ Hold (fun u => Can (fun k => w.heap.size + 2 ≤ k) u (.slice A i j) (q.num.natAbs ^ n) X) u) (fun hf ⟨A, i, j, e, h⟩ => ⟨A, i, j, e, h.keep hf⟩)),
      (15, Fact.eq (.pointer (some ⟨w.heap.size, 2, none⟩))),
      (16, Fact.eq (.slice A4 n4 c4)),
      (17, Fact.eq (.int .i64 n)),
      (18, Fact.mem (fun u v => ∃ A i j, v = .slice A i j ∧ Hold (fun u => Can (fun k => w.heap.size + 2 ≤ k) u (.slice A i j) (q.den ^ n) X) u) (fun hf ⟨A, i, j, e, h⟩ => ⟨A, i, j, e, h.keep hf⟩))] [] [0, 1, 3, 7, 15, 31, 63, 127, 255, 511, 1023, 0, 2048, 0, 14463, 0, 32768, 0, 260223, 524287, 1048575] [] ?_ (by kernel_rfl) (by kernel_rfl) (by kernel_rfl) [(0, some 7), (1, some 8), (2, some 9), (3, some 10), (4, some 11), (5, some 12), (6, some 13), (7, some 14), (8, some 15), (9, some 16), (10, some 17), (11, some 18), (12, some 19), (13, some 20), (14, some 21), (15, some 22), (16, some 23), (17, some 24), (18, some 25)] (by kernel_rfl) ?hA ?hQ (fun _ _ => trivial) (by kernel_rfl) ?steps ?looses ?cont
    case hQ => exact fun _ _ _ _ _ h => h
    case hA =>
      intro vs
      simp only [fillD, List.foldl_cons, List.foldl_nil, Act.put, List.setIfInBounds_toArray, List.set_cons_zero, List.set_cons_succ]
      exact rfl
    case steps =>
      refine ⟨?_, ?_, ?_, ?_, ?_, ?_, ?_, ?_, ?_, ?_, ?_, ?_, ?_, ?_, ?_, ?_, ?_, ?_, ?_, trivial⟩
      · rintro vs u ⟨hV0, hV1, hV2, hV3, hV4, hV5, hV6, hV7, hV8, hV9, hV10, hV11, hV12, hV13, hV14, hV15, hV16, hV17, hV18, -⟩ G
        exact stepAt.pure (v := .pointer (some ⟨w.heap.size, 0, none⟩)) rfl rfl (by go_simp) rfl
      · rintro vs u ⟨hV0, hV1, hV2, hV3, hV4, hV5, hV6, hV7, hV8, hV9, hV10, hV11, hV12, hV13, hV14, hV15, hV16, hV17, hV18, -⟩ G
        have o0 := (B2.keep G).c0
        have eV0 : vs 0 = .pointer (some ⟨w.heap.size, 0, none⟩) := hV0 rfl
        exact stepAt.pure (v := .bool false) rfl rfl (by simp only [eV0]; go_simp) rfl
      · rintro vs u ⟨hV0, hV1, hV2, hV3, hV4, hV5, hV6, hV7, hV8, hV9, hV10, hV11, hV12, hV13, hV14, hV15, hV16, hV17, hV18, -⟩ G
        have eV1 : vs 1 = .bool false := hV1 rfl
        exact stepAt.pure (v := .bool false) rfl rfl (by simp only [eV1]; go_simp) rfl
      · rintro vs u ⟨hV0, hV1, hV2, hV3, hV4, hV5, hV6, hV7, hV8, hV9, hV10, hV11, hV12, hV13, hV14, hV15, hV16, hV17, hV18, -⟩ G
        exact stepAt.unwanted rfl (wanted_not (g := 2) (b := true) (t := 9) rfl (by kernel_rfl) (congrArg some (show vs 2 = _ from hV2 rfl))) rfl
      · rintro vs u ⟨hV0, hV1, hV2, hV3, hV4, hV5, hV6, hV7, hV8, hV9, hV10, hV11, hV12, hV13, hV14, hV15, hV16, hV17, hV18, -⟩ G
        exact stepAt.unwanted rfl (wanted_not (g := 2) (b := true) (t := 9) rfl (by kernel_rfl) (congrArg some (show vs 2 = _ from hV2 rfl))) rfl
      · rintro vs u ⟨hV0, hV1, hV2, hV3, hV4, hV5, hV6, hV7, hV8, hV9, hV10, hV11, hV12, hV13, hV14, hV15, hV16, hV17, hV18, -⟩ G
        have eV2 : vs 2 = .bool false := hV2 rfl
        have eV4 : vs 4 = undef := hV4 rfl
        exact stepAt.pure (v := .bool false) rfl rfl (by simp only [eV2, eV4]; go_simp) rfl
      · rintro vs u ⟨hV0, hV1, hV2, hV3, hV4, hV5, hV6, hV7, hV8, hV9, hV10, hV11, hV12, hV13, hV14, hV15, hV16, hV17, hV18, -⟩ G
        have eV5 : vs 5 = .bool false := hV5 rfl
        exact stepAt.pure (v := .bool false) rfl rfl (by simp only [eV5]; go_simp) rfl
      · rintro vs u ⟨hV0, hV1, hV2, hV3, hV4, hV5, hV6, hV7, hV8, hV9, hV10, hV11, hV12, hV13, hV14, hV15, hV16, hV17, hV18, -⟩ G
        exact stepAt.unwanted rfl (wanted_not (g := 6) (b := true) (t := 13) rfl (by kernel_rfl) (congrArg some (show vs 6 = _ from hV6 rfl))) rfl
      · rintro vs u ⟨hV0, hV1, hV2, hV3, hV4, hV5, hV6, hV7, hV8, hV9, hV10, hV11, hV12, hV13, hV14, hV15, hV16, hV17, hV18, -⟩ G
        exact stepAt.unwanted rfl (wanted_not (g := 6) (b := true) (t := 13) rfl (by kernel_rfl) (congrArg some (show vs 6 = _ from hV6 rfl))) rfl
      · rintro vs u ⟨hV0, hV1, hV2, hV3, hV4, hV5, hV6, hV7, hV8, hV9, hV10, hV11, hV12, hV13, hV14, hV15, hV16, hV17, hV18, -⟩ G
        exact stepAt.unwanted rfl (wanted_not (g := 6) (b := true) (t := 13) rfl (by kernel_rfl) (congrArg some (show vs 6 = _ from hV6 rfl))) rfl
      · rintro vs u ⟨hV0, hV1, hV2, hV3, hV4, hV5, hV6, hV7, hV8, hV9, hV10, hV11, hV12, hV13, hV14, hV15, hV16, hV17, hV18, -⟩ G
        have eV6 : vs 6 = .bool false := hV6 rfl
        have eV9 : vs 9 = undef := hV9 rfl
        exact stepAt.pure (v := .bool false) rfl rfl (by simp only [eV6, eV9]; go_simp) rfl
      · rintro vs u ⟨hV0, hV1, hV2, hV3, hV4, hV5, hV6, hV7, hV8, hV9, hV10, hV11, hV12, hV13, hV14, hV15, hV16, hV17, hV18, -⟩ G
        exact stepAt.pure (v := .pointer (some ⟨w.heap.size, 1, none⟩)) rfl rfl (by go_simp) rfl
      · rintro vs u ⟨hV0, hV1, hV2, hV3, hV4, hV5, hV6, hV7, hV8, hV9, hV10, hV11, hV12, hV13, hV14, hV15, hV16, hV17, hV18, -⟩ G
        have o0 := (B2.keep G).c1
        have eV11 : vs 11 = .pointer (some ⟨w.heap.size, 1, none⟩) := hV11 rfl
        exact stepAt.pure (v := .slice A3 n3 c3) rfl rfl (by simp only [eV11]; go_simp) rfl
      · rintro vs u ⟨hV0, hV1, hV2, hV3, hV4, hV5, hV6, hV7, hV8, hV9, hV10, hV11, hV12, hV13, hV14, hV15, hV16, hV17, hV18, -⟩ G
        exact stepAt.pure (v := .int .i64 n) rfl rfl (by go_simp) rfl
      · rintro vs u ⟨hV0, hV1, hV2, hV3, hV4, hV5, hV6, hV7, hV8, hV9, hV10, hV11, hV12, hV13, hV14, hV15, hV16, hV17, hV18, -⟩ G
        refine stepAt.call (f := 91) (args := #[vs 12, vs 13]) rfl rfl (by go_simp) ?_
        have eV12 : vs 12 = .slice A3 n3 c3 := hV12 rfl
        have eV13 : vs 13 = .int .i64 n := hV13 rfl
        rw [eV12, eV13]
        with_reducible refine (pow_n u (.slice A3 n3 c3) q.num.natAbs L n X (H1.out.num.keep G).num hl hX hn HPN.out hX2).mono ?_
        rintro e u' ⟨v3, rfl, hc, hf⟩
        obtain ⟨P, i, j, rfl⟩ := hc.form
        exact ⟨_, rfl, hf, _, _, _, rfl, fun u' hu' => (hc.mono fun k hk => Nat.le_trans (by have := G.size; have : w2.drew.heap.size = w2.heap.size := rfl; omega) hk).keep hu'⟩
      · rintro vs u ⟨hV0, hV1, hV2, hV3, hV4, hV5, hV6, hV7, hV8, hV9, hV10, hV11, hV12, hV13, hV14, hV15, hV16, hV17, hV18, -⟩ G
        exact stepAt.pure (v := .pointer (some ⟨w.heap.size, 2, none⟩)) rfl rfl (by go_simp) rfl
      · rintro vs u ⟨hV0, hV1, hV2, hV3, hV4, hV5, hV6, hV7, hV8, hV9, hV10, hV11, hV12, hV13, hV14, hV15, hV16, hV17, hV18, -⟩ G
        have o0 := (B2.keep G).c2
        have eV15 : vs 15 = .pointer (some ⟨w.heap.size, 2, none⟩) := hV15 rfl
        exact stepAt.pure (v := .slice A4 n4 c4) rfl rfl (by simp only [eV15]; go_simp) rfl
      · rintro vs u ⟨hV0, hV1, hV2, hV3, hV4, hV5, hV6, hV7, hV8, hV9, hV10, hV11, hV12, hV13, hV14, hV15, hV16, hV17, hV18, -⟩ G
        exact stepAt.pure (v := .int .i64 n) rfl rfl (by go_simp) rfl
      · rintro vs u ⟨hV0, hV1, hV2, hV3, hV4, hV5, hV6, hV7, hV8, hV9, hV10, hV11, hV12, hV13, hV14, hV15, hV16, hV17, hV18, -⟩ G
        refine stepAt.call (f := 91) (args := #[vs 16, vs 17]) rfl rfl (by go_simp) ?_
        have eV16 : vs 16 = .slice A4 n4 c4 := hV16 rfl
        have eV17 : vs 17 = .int .i64 n := hV17 rfl
        rw [eV16, eV17]
        with_reducible refine (pow_n u (.slice A4 n4 c4) q.den L n X (H1.out.den.keep G).num hl hX hn HPD.out hX2).mono ?_
        rintro e u' ⟨v3, rfl, hc, hf⟩
        obtain ⟨P, i, j, rfl⟩ := hc.form
        exact ⟨_, rfl, hf, _, _, _, rfl, fun u' hu' => (hc.mono fun k hk => Nat.le_trans (by have := G.size; have : w2.drew.heap.size = w2.heap.size := rfl; omega) hk).keep hu'⟩
    case looses =>
      exact trivial
    case cont =>
      rintro vs u ⟨hV0, hV1, hV2, hV3, hV4, hV5, hV6, hV7, hV8, hV9, hV10, hV11, hV12, hV13, hV14, hV15, hV16, hV17, hV18, -⟩ G
      have eV0 : vs 0 = .pointer (some ⟨w.heap.size, 0, none⟩) := hV0
      have eV1 : vs 1 = .bool false := hV1
      have eV2 : vs 2 = .bool false := hV2
      have eV3 : vs 3 = undef := hV3
      have eV4 : vs 4 = undef := hV4
      have eV5 : vs 5 = .bool false := hV5
      have eV6 : vs 6 = .bool false := hV6
      have eV7 : vs 7 = undef := hV7
      have eV8 : vs 8 = undef := hV8
      have eV9 : vs 9 = undef := hV9
      have eV10 : vs 10 = .bool false := hV10
      have eV11 : vs 11 = .pointer (some ⟨w.heap.size, 1, none⟩) := hV11
      have eV12 : vs 12 = .slice A3 n3 c3 := hV12
      have eV13 : vs 13 = .int .i64 n := hV13
      obtain ⟨P3, i3, j3, eV14, p3⟩ := hV14
      replace eV14 : vs 14 = _ := eV14
      have eV15 : vs 15 = .pointer (some ⟨w.heap.size, 2, none⟩) := hV15
      have eV16 : vs 16 = .slice A4 n4 c4 := hV16
      have eV17 : vs 17 = .int .i64 n := hV17
      obtain ⟨P4, i4, j4, eV18, p4⟩ := hV18
      replace eV18 : vs 18 = _ := eV18
      simp only [eV0, eV1, eV2, eV3, eV4, eV5, eV6, eV7, eV8, eV9, eV10, eV11, eV12, eV13, eV14, eV15, eV16, eV17, eV18]
      clear eV0 eV1 eV2 eV3 eV4 eV5 eV6 eV7 eV8 eV9 eV10 eV11 eV12 eV13 eV14 eV15 eV16 eV17 eV18 hV0 hV1 hV2 hV3 hV4 hV5 hV6 hV7 hV8 hV9 hV10 hV11 hV12 hV13 hV15 hV16 hV17
      clear HPN HPD H1
      refine wpTill.next 19 rfl (by kernel_rfl) (by rfl) (fun K hK => ?_)
      go_simp
      refine hK _ _ (no_wait (by kernel_rfl)) ?_
      clear hK K
      replace hb := hb.keep G
      replace F := fr_then F G
      have g0 := hb.free 0
      have g1 := hb.free 1
      have g2 := hb.free 2
      have d0 := hb.c0
      have d1 := hb.c1
      have d2 := hb.c2
      refine wpTill.next 20 rfl (by kernel_rfl) (by rfl) (fun K hK => ?_)
      go_simp
      refine hK _ _ (no_wait (by kernel_rfl)) ?_
      clear hK K
      refine wpTill.done (by kernel_rfl) ?_
      have B6 := hb.set3 (.bool false) (.slice P3 i3 j3) (.slice P4 i4 j4)
      have F4 := fr_set3 u (w.heap.size + 1) (.bool false) (.slice P3 i3 j3) (.slice P4 i4 j4)
      go_wp2_with fail
      refine bodyPost_ret (results_cell3 rfl rfl B6 Tryz.underlying51 rat3) rfl ?_
      exact ⟨_, _, by rw [HSG.out], ⟨by rw [HP.out]; exact p3.now.out F4 (fun k hk => by omega) (by omega), by rw [HD.out]; exact p4.now.out F4 (fun k hk => by omega) (by omega)⟩, F.comp F4 fun k hk h => ⟨h, by omega⟩⟩
  · obtain ⟨c, hc⟩ : ∃ c, decide (n % 2 = 1) = c := ⟨_, rfl⟩
    have HSG := Lib.hid ((sg_pow1 (n := n) hsq).trans hc)
    clear hsq
    rcases Nat.eq_zero_or_pos n with h0 | h0
    · have hc0 : c = false := by rw [← hc, h0]; rfl
      subst hc0
      clear hc
      have np : ¬ (0 : Int) < (n : Int) := by omega
      go_wp2_with fail
      refine wpTill.begin (fun _ => True) 19 (by kernel_rfl) ?_
      change wpTill _ _ _ _ _ _ 21 _ _ _
      refine wpTill.free (jj := 19) (m := 2) [(0, Fact.eq (.pointer (some ⟨w.heap.size, 0, none⟩))),
      (1, Fact.eq (.bool true)),
      (2, Fact.eq (.bool true)),
      (3, Fact.eq (.int .i64 n)),
      (4, Fact.eq (.bool false)),
      (5, Fact.eq (.bool false)),
      (6, Fact.eq (.bool false)),
      (7, Fact.eq undef),
      (8, Fact.eq undef),
      (9, Fact.eq undef),
      (10, Fact.eq (.bool false)),
      (11, Fact.eq (.pointer (some ⟨w.heap.size, 1, none⟩))),
      (12, Fact.eq (.slice A3 n3 c3)),
      (13, Fact.eq (.int .i64 n)),
      (14, Fact.mem (fun u v => ∃ A i j, v = .slice A i j ∧ Hold (fun u => Can (fun k => w.heap.size + 2 ≤ k) u (.slice A i j) (q.num.natAbs ^ n) X) u) (fun hf ⟨A, i, j, e, h⟩ => ⟨A, i, j, e, h.keep hf⟩)),
      (15, Fact.eq (.pointer (some ⟨w.heap.size, 2, none⟩))),
      (16, Fact.eq (.slice A4 n4 c4)),
      (17, Fact.eq (.int .i64 n)),
      (18, Fact.mem (fun u v => ∃ A i j, v = .slice A i j ∧ Hold (fun u => Can (fun k => w.heap.size + 2 ≤ k) u (.slice A i j) (q.den ^ n) X) u) (fun hf ⟨A, i, j, e, h⟩ => ⟨A, i, j, e, h.keep hf⟩))] [] [0, 1, 3, 7, 15, 31, 63, 127, 255, 511, 1023, 0, 2048, 0, 14463, 0, 32768, 0, 260223, 524287, 1048575] [] ?_ (by kernel_rfl) (by kernel_rfl) (by kernel_rfl) [(0, some 7), (1, some 8), (2, some 9), (3, some 10), (4, some 11), (5, some 12), (6, some 13), (7, some 14), (8, some 15), (9, some 16), (10, some 17), (11, some 18), (12, some 19), (13, some 20), (14, some 21), (15, some 22), (16, some 23), (17, some 24), (18, some 25)] (by kernel_rfl) ?hA ?hQ (fun _ _ => trivial) (by kernel_rfl) ?steps ?looses ?cont
      case hQ => exact fun _ _ _ _ _ h => h
      case hA =>
        intro vs
        simp only [fillD, List.foldl_cons, List.foldl_nil, Act.put, List.setIfInBounds_toArray, List.set_cons_zero, List.set_cons_succ]
        exact rfl
      case steps =>
        refine ⟨?_, ?_, ?_, ?_, ?_, ?_, ?_, ?_, ?_, ?_, ?_, ?_, ?_, ?_, ?_, ?_, ?_, ?_, ?_, trivial⟩
        · rintro vs u ⟨hV0, hV1, hV2, hV3, hV4, hV5, hV6, hV7, hV8, hV9, hV10, hV11, hV12, hV13, hV14, hV15, hV16, hV17, hV18, -⟩ G
          exact stepAt.pure (v := .pointer (some ⟨w.heap.size, 0, none⟩)) rfl rfl (by go_simp) rfl
        · rintro vs u ⟨hV0, hV1, hV2, hV3, hV4, hV5, hV6, hV7, hV8, hV9, hV10, hV11, hV12, hV13, hV14, hV15, hV16, hV17, hV18, -⟩ G
          have o0 := (B2.keep G).c0
          have eV0 : vs 0 = .pointer (some ⟨w.heap.size, 0, none⟩) := hV0 rfl
          exact stepAt.pure (v := .bool true) rfl rfl (by simp only [eV0]; go_simp) rfl
        · rintro vs u ⟨hV0, hV1, hV2, hV3, hV4, hV5, hV6, hV7, hV8, hV9, hV10, hV11, hV12, hV13, hV14, hV15, hV16, hV17, hV18, -⟩ G
          have eV1 : vs 1 = .bool true := hV1 rfl
          exact stepAt.pure (v := .bool true) rfl rfl (by simp only [eV1]; go_simp) rfl
        · rintro vs u ⟨hV0, hV1, hV2, hV3, hV4, hV5, hV6, hV7, hV8, hV9, hV10, hV11, hV12, hV13, hV14, hV15, hV16, hV17, hV18, -⟩ G
          exact stepAt.pure (v := .int .i64 n) rfl (wanted_by (g := 2) (b := true) (t := 9) rfl (by kernel_rfl) (congrArg some (show vs 2 = _ from hV2 rfl))) (by go_simp) rfl
        · rintro vs u ⟨hV0, hV1, hV2, hV3, hV4, hV5, hV6, hV7, hV8, hV9, hV10, hV11, hV12, hV13, hV14, hV15, hV16, hV17, hV18, -⟩ G
          have eV3 : vs 3 = .int .i64 n := hV3 rfl
          exact stepAt.pure (v := .bool false) rfl (wanted_by (g := 2) (b := true) (t := 9) rfl (by kernel_rfl) (congrArg some (show vs 2 = _ from hV2 rfl))) (by simp only [eV3]; go_simp) rfl
        · rintro vs u ⟨hV0, hV1, hV2, hV3, hV4, hV5, hV6, hV7, hV8, hV9, hV10, hV11, hV12, hV13, hV14, hV15, hV16, hV17, hV18, -⟩ G
          have eV2 : vs 2 = .bool true := hV2 rfl
          have eV4 : vs 4 = .bool false := hV4 rfl
          exact stepAt.pure (v := .bool false) rfl rfl (by simp only [eV2, eV4]; go_simp) rfl
        · rintro vs u ⟨hV0, hV1, hV2, hV3, hV4, hV5, hV6, hV7, hV8, hV9, hV10, hV11, hV12, hV13, hV14, hV15, hV16, hV17, hV18, -⟩ G
          have eV5 : vs 5 = .bool false := hV5 rfl
          exact stepAt.pure (v := .bool false) rfl rfl (by simp only [eV5]; go_simp) rfl
        · rintro vs u ⟨hV0, hV1, hV2, hV3, hV4, hV5, hV6, hV7, hV8, hV9, hV10, hV11, hV12, hV13, hV14, hV15, hV16, hV17, hV18, -⟩ G
          exact stepAt.unwanted rfl (wanted_not (g := 6) (b := true) (t := 13) rfl (by kernel_rfl) (congrArg some (show vs 6 = _ from hV6 rfl))) rfl
        · rintro vs u ⟨hV0, hV1, hV2, hV3, hV4, hV5, hV6, hV7, hV8, hV9, hV10, hV11, hV12, hV13, hV14, hV15, hV16, hV17, hV18, -⟩ G
          exact stepAt.unwanted rfl (wanted_not (g := 6) (b := true) (t := 13) rfl (by kernel_rfl) (congrArg some (show vs 6 = _ from hV6 rfl))) rfl
        · rintro vs u ⟨hV0, hV1, hV2, hV3, hV4, hV5, hV6, hV7, hV8, hV9, hV10, hV11, hV12, hV13, hV14, hV15, hV16, hV17, hV18, -⟩ G
          exact stepAt.unwanted rfl (wanted_not (g := 6) (b := true) (t := 13) rfl (by kernel_rfl) (congrArg some (show vs 6 = _ from hV6 rfl))) rfl
        · rintro vs u ⟨hV0, hV1, hV2, hV3, hV4, hV5, hV6, hV7, hV8, hV9, hV10, hV11, hV12, hV13, hV14, hV15, hV16, hV17, hV18, -⟩ G
          have eV6 : vs 6 = .bool false := hV6 rfl
          have eV9 : vs 9 = undef := hV9 rfl
          exact stepAt.pure (v := .bool false) rfl rfl (by simp only [eV6, eV9]; go_simp) rfl
        · rintro vs u ⟨hV0, hV1, hV2, hV3, hV4, hV5, hV6, hV7, hV8, hV9, hV10, hV11, hV12, hV13, hV14, hV15, hV16, hV17, hV18, -⟩ G
          exact stepAt.pure (v := .pointer (some ⟨w.heap.size, 1, none⟩)) rfl rfl (by go_simp) rfl
        · rintro vs u ⟨hV0, hV1, hV2, hV3, hV4, hV5, hV6, hV7, hV8, hV9, hV10, hV11, hV12, hV13, hV14, hV15, hV16, hV17, hV18, -⟩ G
          have o0 := (B2.keep G).c1
          have eV11 : vs 11 = .pointer (some ⟨w.heap.size, 1, none⟩) := hV11 rfl
          exact stepAt.pure (v := .slice A3 n3 c3) rfl rfl (by simp only [eV11]; go_simp) rfl
        · rintro vs u ⟨hV0, hV1, hV2, hV3, hV4, hV5, hV6, hV7, hV8, hV9, hV10, hV11, hV12, hV13, hV14, hV15, hV16, hV17, hV18, -⟩ G
          exact stepAt.pure (v := .int .i64 n) rfl rfl (by go_simp) rfl
        · rintro vs u ⟨hV0, hV1, hV2, hV3, hV4, hV5, hV6, hV7, hV8, hV9, hV10, hV11, hV12, hV13, hV14, hV15, hV16, hV17, hV18, -⟩ G
          refine stepAt.call (f := 91) (args := #[vs 12, vs 13]) rfl rfl (by go_simp) ?_
          have eV12 : vs 12 = .slice A3 n3 c3 := hV12 rfl
          have eV13 : vs 13 = .int .i64 n := hV13 rfl
          rw [eV12, eV13]
          with_reducible refine (pow_n u (.slice A3 n3 c3) q.num.natAbs L n X (H1.out.num.keep G).num hl hX hn HPN.out hX2).mono ?_
          rintro e u' ⟨v3, rfl, hc, hf⟩
          obtain ⟨P, i, j, rfl⟩ := hc.form
          exact ⟨_, rfl, hf, _, _, _, rfl, fun u' hu' => (hc.mono fun k hk => Nat.le_trans (by have := G.size; have : w2.drew.heap.size = w2.heap.size := rfl; omega) hk).keep hu'⟩
        · rintro vs u ⟨hV0, hV1, hV2, hV3, hV4, hV5, hV6, hV7, hV8, hV9, hV10, hV11, hV12, hV13, hV14, hV15, hV16, hV17, hV18, -⟩ G
          exact stepAt.pure (v := .pointer (some ⟨w.heap.size, 2, none⟩)) rfl rfl (by go_simp) rfl
        · rintro vs u ⟨hV0, hV1, hV2, hV3, hV4, hV5, hV6, hV7, hV8, hV9, hV10, hV11, hV12, hV13, hV14, hV15, hV16, hV17, hV18, -⟩ G
          have o0 := (B2.keep G).c2
          have eV15 : vs 15 = .pointer (some ⟨w.heap.size, 2, none⟩) := hV15 rfl
          exact stepAt.pure (v := .slice A4 n4 c4) rfl rfl (by simp only [eV15]; go_simp) rfl
        · rintro vs u ⟨hV0, hV1, hV2, hV3, hV4, hV5, hV6, hV7, hV8, hV9, hV10, hV11, hV12, hV13, hV14, hV15, hV16, hV17, hV18, -⟩ G
          exact stepAt.pure (v := .int .i64 n) rfl rfl (by go_simp) rfl
        · rintro vs u ⟨hV0, hV1, hV2, hV3, hV4, hV5, hV6, hV7, hV8, hV9, hV10, hV11, hV12, hV13, hV14, hV15, hV16, hV17, hV18, -⟩ G
          refine stepAt.call (f := 91) (args := #[vs 16, vs 17]) rfl rfl (by go_simp) ?_
          have eV16 : vs 16 = .slice A4 n4 c4 := hV16 rfl
          have eV17 : vs 17 = .int .i64 n := hV17 rfl
          rw [eV16, eV17]
          with_reducible refine (pow_n u (.slice A4 n4 c4) q.den L n X (H1.out.den.keep G).num hl hX hn HPD.out hX2).mono ?_
          rintro e u' ⟨v3, rfl, hc, hf⟩
          obtain ⟨P, i, j, rfl⟩ := hc.form
          exact ⟨_, rfl, hf, _, _, _, rfl, fun u' hu' => (hc.mono fun k hk => Nat.le_trans (by have := G.size; have : w2.drew.heap.size = w2.heap.size := rfl; omega) hk).keep hu'⟩
      case looses =>
        exact trivial
      case cont =>
        rintro vs u ⟨hV0, hV1, hV2, hV3, hV4, hV5, hV6, hV7, hV8, hV9, hV10, hV11, hV12, hV13, hV14, hV15, hV16, hV17, hV18, -⟩ G
        have eV0 : vs 0 = .pointer (some ⟨w.heap.size, 0, none⟩) := hV0
        have eV1 : vs 1 = .bool true := hV1
        have eV2 : vs 2 = .bool true := hV2
        have eV3 : vs 3 = .int .i64 n := hV3
        have eV4 : vs 4 = .bool false := hV4
        have eV5 : vs 5 = .bool false := hV5
        have eV6 : vs 6 = .bool false := hV6
        have eV7 : vs 7 = undef := hV7
        have eV8 : vs 8 = undef := hV8
        have eV9 : vs 9 = undef := hV9
        have eV10 : vs 10 = .bool false := hV10
        have eV11 : vs 11 = .pointer (some ⟨w.heap.size, 1, none⟩) := hV11
        have eV12 : vs 12 = .slice A3 n3 c3 := hV12
        have eV13 : vs 13 = .int .i64 n := hV13
        obtain ⟨P3, i3, j3, eV14, p3⟩ := hV14
        replace eV14 : vs 14 = _ := eV14
        have eV15 : vs 15 = .pointer (some ⟨w.heap.size, 2, none⟩) := hV15
        have eV16 : vs 16 = .slice A4 n4 c4 := hV16
        have eV17 : vs 17 = .int .i64 n := hV17
        obtain ⟨P4, i4, j4, eV18, p4⟩ := hV18
        replace eV18 : vs 18 = _ := eV18
        simp only [eV0, eV1, eV2, eV3, eV4, eV5, eV6, eV7, eV8, eV9, eV10, eV11, eV12, eV13, eV14, eV15, eV16, eV17, eV18]
        clear eV0 eV1 eV2 eV3 eV4 eV5 eV6 eV7 eV8 eV9 eV10 eV11 eV12 eV13 eV14 eV15 eV16 eV17 eV18 hV0 hV1 hV2 hV3 hV4 hV5 hV6 hV7 hV8 hV9 hV10 hV11 hV12 hV13 hV15 hV16 hV17
        clear HPN HPD H1
        refine wpTill.next 19 rfl (by kernel_rfl) (by rfl) (fun K hK => ?_)
        go_simp
        refine hK _ _ (no_wait (by kernel_rfl)) ?_
        clear hK K
        replace hb := hb.keep G
        replace F := fr_then F G
        have g0 := hb.free 0
        have g1 := hb.free 1
        have g2 := hb.free 2
        have d0 := hb.c0
        have d1 := hb.c1
        have d2 := hb.c2
        refine wpTill.next 20 rfl (by kernel_rfl) (by rfl) (fun K hK => ?_)
        go_simp
        refine hK _ _ (no_wait (by kernel_rfl)) ?_
        clear hK K
        refine wpTill.done (by kernel_rfl) ?_
        have B6 := hb.set3 (.bool false) (.slice P3 i3 j3) (.slice P4 i4 j4)
        have F4 := fr_set3 u (w.heap.size + 1) (.bool false) (.slice P3 i3 j3) (.slice P4 i4 j4)
        go_wp2_with fail
        refine bodyPost_ret (results_cell3 rfl rfl B6 Tryz.underlying51 rat3) rfl ?_
        exact ⟨_, _, by rw [HSG.out], ⟨by rw [HP.out]; exact p3.now.out F4 (fun k hk => by omega) (by omega), by rw [HD.out]; exact p4.now.out F4 (fun k hk => by omega) (by omega)⟩, F.comp F4 fun k hk h => ⟨h, by omega⟩⟩
    · have hw : (n : Int).tmod 2 = (n : Int) % 2 := Int.tmod_eq_emod_of_nonneg (by omega)
      have np : (0 : Int) < (n : Int) := by omega
      cases c
      · have nm : ¬ (n : Int) % 2 = 1 := by have := of_decide_eq_false hc; omega
        clear hc
        go_wp2_with fail
        refine wpTill.begin (fun _ => True) 19 (by kernel_rfl) ?_
        change wpTill _ _ _ _ _ _ 21 _ _ _
        refine wpTill.free (jj := 19) (m := 2) [(0, Fact.eq (.pointer (some ⟨w.heap.size, 0, none⟩))),
      (1, Fact.eq (.bool true)),
      (2, Fact.eq (.bool true)),
      (3, Fact.eq (.int .i64 n)),
      (4, Fact.eq (.bool true)),
      (5, Fact.eq (.bool true)),
      (6, Fact.eq (.bool true)),
      (7, Fact.eq (.int .i64 n)),
      (8, Fact.eq (.int .i64 (n % 2 : Nat))),
      (9, Fact.eq (.bool false)),
      (10, Fact.eq (.bool false)),
      (11, Fact.eq (.pointer (some ⟨w.heap.size, 1, none⟩))),
      (12, Fact.eq (.slice A3 n3 c3)),
      (13, Fact.eq (.int .i64 n)),
      (14, Fact.mem (fun u v => ∃ A i j, v = .slice A i j ∧ Hold (fun u => Can (fun k => w.heap.size + 2 ≤ k) u (.slice A i j) (q.num.natAbs ^ n) X) u) (fun hf ⟨A, i, j, e, h⟩ => ⟨A, i, j, e, h.keep hf⟩)),
      (15, Fact.eq (.pointer (some ⟨w.heap.size, 2, none⟩))),
      (16, Fact.eq (.slice A4 n4 c4)),
      (17, Fact.eq (.int .i64 n)),
      (18, Fact.mem (fun u v => ∃ A i j, v = .slice A i j ∧ Hold (fun u => Can (fun k => w.heap.size + 2 ≤ k) u (.slice A i j) (q.den ^ n) X) u) (fun hf ⟨A, i, j, e, h⟩ => ⟨A, i, j, e, h.keep hf⟩))] [] [0, 1, 3, 7, 15, 31, 63, 127, 255, 511, 1023, 0, 2048, 0, 14463, 0, 32768, 0, 260223, 524287, 1048575] [] ?_ (by kernel_rfl) (by kernel_rfl) (by kernel_rfl) [(0, some 7), (1, some 8), (2, some 9), (3, some 10), (4, some 11), (5, some 12), (6, some 13), (7, some 14), (8, some 15), (9, some 16), (10, some 17), (11, some 18), (12, some 19), (13, some 20), (14, some 21), (15, some 22), (16, some 23), (17, some 24), (18, some 25)] (by kernel_rfl) ?hA ?hQ (fun _ _ => trivial) (by kernel_rfl) ?steps ?looses ?cont
        case hQ => exact fun _ _ _ _ _ h => h
        case hA =>
          intro vs
          simp only [fillD, List.foldl_cons, List.foldl_nil, Act.put, List.setIfInBounds_toArray, List.set_cons_zero, List.set_cons_succ]
          exact rfl
        case steps =>
          refine ⟨?_, ?_, ?_, ?_, ?_, ?_, ?_, ?_, ?_, ?_, ?_, ?_, ?_, ?_, ?_, ?_, ?_, ?_, ?_, trivial⟩
          · rintro vs u ⟨hV0, hV1, hV2, hV3, hV4, hV5, hV6, hV7, hV8, hV9, hV10, hV11, hV12, hV13, hV14, hV15, hV16, hV17, hV18, -⟩ G
            exact stepAt.pure (v := .pointer (some ⟨w.heap.size, 0, none⟩)) rfl rfl (by go_simp) rfl
          · rintro vs u ⟨hV0, hV1, hV2, hV3, hV4, hV5, hV6, hV7, hV8, hV9, hV10, hV11, hV12, hV13, hV14, hV15, hV16, hV17, hV18, -⟩ G
            have o0 := (B2.keep G).c0
            have eV0 : vs 0 = .pointer (some ⟨w.heap.size, 0, none⟩) := hV0 rfl
            exact stepAt.pure (v := .bool true) rfl rfl (by simp only [eV0]; go_simp) rfl
          · rintro vs u ⟨hV0, hV1, hV2, hV3, hV4, hV5, hV6, hV7, hV8, hV9, hV10, hV11, hV12, hV13, hV14, hV15, hV16, hV17, hV18, -⟩ G
            have eV1 : vs 1 = .bool true := hV1 rfl
            exact stepAt.pure (v := .bool true) rfl rfl (by simp only [eV1]; go_simp) rfl
          · rintro vs u ⟨hV0, hV1, hV2, hV3, hV4, hV5, hV6, hV7, hV8, hV9, hV10, hV11, hV12, hV13, hV14, hV15, hV16, hV17, hV18, -⟩ G
            exact stepAt.pure (v := .int .i64 n) rfl (wanted_by (g := 2) (b := true) (t := 9) rfl (by kernel_rfl) (congrArg some (show vs 2 = _ from hV2 rfl))) (by go_simp) rfl
          · rintro vs u ⟨hV0, hV1, hV2, hV3, hV4, hV5, hV6, hV7, hV8, hV9, hV10, hV11, hV12, hV13, hV14, hV15, hV16, hV17, hV18, -⟩ G
            have eV3 : vs 3 = .int .i64 n := hV3 rfl
            exact stepAt.pure (v := .bool true) rfl (wanted_by (g := 2) (b := true) (t := 9) rfl (by kernel_rfl) (congrArg some (show vs 2 = _ from hV2 rfl))) (by simp only [eV3]; go_simp) rfl
          · rintro vs u ⟨hV0, hV1, hV2, hV3, hV4, hV5, hV6, hV7, hV8, hV9, hV10, hV11, hV12, hV13, hV14, hV15, hV16, hV17, hV18, -⟩ G
            have eV2 : vs 2 = .bool true := hV2 rfl
            have eV4 : vs 4 = .bool true := hV4 rfl
            exact stepAt.pure (v := .bool true) rfl rfl (by simp only [eV2, eV4]; go_simp) rfl
          · rintro vs u ⟨hV0, hV1, hV2, hV3, hV4, hV5, hV6, hV7, hV8, hV9, hV10, hV11, hV12, hV13, hV14, hV15, hV16, hV17, hV18, -⟩ G
            have eV5 : vs 5 = .bool true := hV5 rfl
            exact stepAt.pure (v := .bool true) rfl rfl (by simp only [eV5]; go_simp) rfl
          · rintro vs u ⟨hV0, hV1, hV2, hV3, hV4, hV5, hV6, hV7, hV8, hV9, hV10, hV11, hV12, hV13, hV14, hV15, hV16, hV17, hV18, -⟩ G
            exact stepAt.pure (v := .int .i64 n) rfl (wanted_by (g := 6) (b := true) (t := 13) rfl (by kernel_rfl) (congrArg some (show vs 6 = _ from hV6 rfl))) (by go_simp) rfl
          · rintro vs u ⟨hV0, hV1, hV2, hV3, hV4, hV5, hV6, hV7, hV8, hV9, hV10, hV11, hV12, hV13, hV14, hV15, hV16, hV17, hV18, -⟩ G
            have eV7 : vs 7 = .int .i64 n := hV7 rfl
            exact stepAt.pure (v := .int .i64 (n % 2 : Nat)) rfl (wanted_by (g := 6) (b := true) (t := 13) rfl (by kernel_rfl) (congrArg some (show vs 6 = _ from hV6 rfl))) (by simp only [eV7]; go_simp) rfl
          · rintro vs u ⟨hV0, hV1, hV2, hV3, hV4, hV5, hV6, hV7, hV8, hV9, hV10, hV11, hV12, hV13, hV14, hV15, hV16, hV17, hV18, -⟩ G
            have eV8 : vs 8 = .int .i64 (n % 2 : Nat) := hV8 rfl
            exact stepAt.pure (v := .bool false) rfl (wanted_by (g := 6) (b := true) (t := 13) rfl (by kernel_rfl) (congrArg some (show vs 6 = _ from hV6 rfl))) (by simp only [eV8]; go_simp) rfl
          · rintro vs u ⟨hV0, hV1, hV2, hV3, hV4, hV5, hV6, hV7, hV8, hV9, hV10, hV11, hV12, hV13, hV14, hV15, hV16, hV17, hV18, -⟩ G
            have eV6 : vs 6 = .bool true := hV6 rfl
            have eV9 : vs 9 = .bool false := hV9 rfl
            exact stepAt.pure (v := .bool false) rfl rfl (by simp only [eV6, eV9]; go_simp) rfl
          · rintro vs u ⟨hV0, hV1, hV2, hV3, hV4, hV5, hV6, hV7, hV8, hV9, hV10, hV11, hV12, hV13, hV14, hV15, hV16, hV17, hV18, -⟩ G
            exact stepAt.pure (v := .pointer (some ⟨w.heap.size, 1, none⟩)) rfl rfl (by go_simp) rfl
          · rintro vs u ⟨hV0, hV1, hV2, hV3, hV4, hV5, hV6, hV7, hV8, hV9, hV10, hV11, hV12, hV13, hV14, hV15, hV16, hV17, hV18, -⟩ G
            have o0 := (B2.keep G).c1
            have eV11 : vs 11 = .pointer (some ⟨w.heap.size, 1, none⟩) := hV11 rfl
            exact stepAt.pure (v := .slice A3 n3 c3) rfl rfl (by simp only [eV11]; go_simp) rfl
          · rintro vs u ⟨hV0, hV1, hV2, hV3, hV4, hV5, hV6, hV7, hV8, hV9, hV10, hV11, hV12, hV13, hV14, hV15, hV16, hV17, hV18, -⟩ G
            exact stepAt.pure (v := .int .i64 n) rfl rfl (by go_simp) rfl
          · rintro vs u ⟨hV0, hV1, hV2, hV3, hV4, hV5, hV6, hV7, hV8, hV9, hV10, hV11, hV12, hV13, hV14, hV15, hV16, hV17, hV18, -⟩ G
            refine stepAt.call (f := 91) (args := #[vs 12, vs 13]) rfl rfl (by go_simp) ?_
            have eV12 : vs 12 = .slice A3 n3 c3 := hV12 rfl
            have eV13 : vs 13 = .int .i64 n := hV13 rfl
            rw [eV12, eV13]
            with_reducible refine (pow_n u (.slice A3 n3 c3) q.num.natAbs L n X (H1.out.num.keep G).num hl hX hn HPN.out hX2).mono ?_
            rintro e u' ⟨v3, rfl, hc, hf⟩
            obtain ⟨P, i, j, rfl⟩ := hc.form
            exact ⟨_, rfl, hf, _, _, _, rfl, fun u' hu' => (hc.mono fun k hk => Nat.le_trans (by have := G.size; have : w2.drew.heap.size = w2.heap.size := rfl; omega) hk).keep hu'⟩
          · rintro vs u ⟨hV0, hV1, hV2, hV3, hV4, hV5, hV6, hV7, hV8, hV9, hV10, hV11, hV12, hV13, hV14, hV15, hV16, hV17, hV18, -⟩ G
            exact stepAt.pure (v := .pointer (some ⟨w.heap.size, 2, none⟩)) rfl rfl (by go_simp) rfl
          · rintro vs u ⟨hV0, hV1, hV2, hV3, hV4, hV5, hV6, hV7, hV8, hV9, hV10, hV11, hV12, hV13, hV14, hV15, hV16, hV17, hV18, -⟩ G
            have o0 := (B2.keep G).c2
            have eV15 : vs 15 = .pointer (some ⟨w.heap.size, 2, none⟩) := hV15 rfl
            exact stepAt.pure (v := .slice A4 n4 c4) rfl rfl (by simp only [eV15]; go_simp) rfl
          · rintro vs u ⟨hV0, hV1, hV2, hV3, hV4, hV5, hV6, hV7, hV8, hV9, hV10, hV11, hV12, hV13, hV14, hV15, hV16, hV17, hV18, -⟩ G
            exact stepAt.pure (v := .int .i64 n) rfl rfl (by go_simp) rfl
          · rintro vs u ⟨hV0, hV1, hV2, hV3, hV4, hV5, hV6, hV7, hV8, hV9, hV10, hV11, hV12, hV13, hV14, hV15, hV16, hV17, hV18, -⟩ G
            refine stepAt.call (f := 91) (args := #[vs 16, vs 17]) rfl rfl (by go_simp) ?_
            have eV16 : vs 16 = .slice A4 n4 c4 := hV16 rfl
            have eV17 : vs 17 = .int .i64 n := hV17 rfl
            rw [eV16, eV17]
            with_reducible refine (pow_n u (.slice A4 n4 c4) q.den L n X (H1.out.den.keep G).num hl hX hn HPD.out hX2).mono ?_
            rintro e u' ⟨v3, rfl, hc, hf⟩
            obtain ⟨P, i, j, rfl⟩ := hc.form
            exact ⟨_, rfl, hf, _, _, _, rfl, fun u' hu' => (hc.mono fun k hk => Nat.le_trans (by have := G.size; have : w2.drew.heap.size = w2.heap.size := rfl; omega) hk).keep hu'⟩
        case looses =>
          exact trivial
        case cont =>
          rintro vs u ⟨hV0, hV1, hV2, hV3, hV4, hV5, hV6, hV7, hV8, hV9, hV10, hV11, hV12, hV13, hV14, hV15, hV16, hV17, hV18, -⟩ G
          have eV0 : vs 0 = .pointer (some ⟨w.heap.size, 0, none⟩) := hV0
          have eV1 : vs 1 = .bool true := hV1
          have eV2 : vs 2 = .bool true := hV2
          have eV3 : vs 3 = .int .i64 n := hV3
          have eV4 : vs 4 = .bool true := hV4
          have eV5 : vs 5 = .bool true := hV5
          have eV6 : vs 6 = .bool true := hV6
          have eV7 : vs 7 = .int .i64 n := hV7
          have eV8 : vs 8 = .int .i64 (n % 2 : Nat) := hV8
          have eV9 : vs 9 = .bool false := hV9
          have eV10 : vs 10 = .bool false := hV10
          have eV11 : vs 11 = .pointer (some ⟨w.heap.size, 1, none⟩) := hV11
          have eV12 : vs 12 = .slice A3 n3 c3 := hV12
          have eV13 : vs 13 = .int .i64 n := hV13
          obtain ⟨P3, i3, j3, eV14, p3⟩ := hV14
          replace eV14 : vs 14 = _ := eV14
          have eV15 : vs 15 = .pointer (some ⟨w.heap.size, 2, none⟩) := hV15
          have eV16 : vs 16 = .slice A4 n4 c4 := hV16
          have eV17 : vs 17 = .int .i64 n := hV17
          obtain ⟨P4, i4, j4, eV18, p4⟩ := hV18
          replace eV18 : vs 18 = _ := eV18
          simp only [eV0, eV1, eV2, eV3, eV4, eV5, eV6, eV7, eV8, eV9, eV10, eV11, eV12, eV13, eV14, eV15, eV16, eV17, eV18]
          clear eV0 eV1 eV2 eV3 eV4 eV5 eV6 eV7 eV8 eV9 eV10 eV11 eV12 eV13 eV14 eV15 eV16 eV17 eV18 hV0 hV1 hV2 hV3 hV4 hV5 hV6 hV7 hV8 hV9 hV10 hV11 hV12 hV13 hV15 hV16 hV17
          clear HPN HPD H1
          refine wpTill.next 19 rfl (by kernel_rfl) (by rfl) (fun K hK => ?_)
          go_simp
          refine hK _ _ (no_wait (by kernel_rfl)) ?_
          clear hK K
          replace hb := hb.keep G
          replace F := fr_then F G
          have g0 := hb.free 0
          have g1 := hb.free 1
          have g2 := hb.free 2
          have d0 := hb.c0
          have d1 := hb.c1
          have d2 := hb.c2
          refine wpTill.next 20 rfl (by kernel_rfl) (by rfl) (fun K hK => ?_)
          go_simp
          refine hK _ _ (no_wait (by kernel_rfl)) ?_
          clear hK K
          refine wpTill.done (by kernel_rfl) ?_
          have B6 := hb.set3 (.bool false) (.slice P3 i3 j3) (.slice P4 i4 j4)
          have F4 := fr_set3 u (w.heap.size + 1) (.bool false) (.slice P3 i3 j3) (.slice P4 i4 j4)
          go_wp2_with fail
          refine bodyPost_ret (results_cell3 rfl rfl B6 Tryz.underlying51 rat3) rfl ?_
          exact ⟨_, _, by rw [HSG.out], ⟨by rw [HP.out]; exact p3.now.out F4 (fun k hk => by omega) (by omega), by rw [HD.out]; exact p4.now.out F4 (fun k hk => by omega) (by omega)⟩, F.comp F4 fun k hk h => ⟨h, by omega⟩⟩
      · have nm : (n : Int) % 2 = 1 := by have := of_decide_eq_true hc; omega
        clear hc
        go_wp2_with fail
        refine wpTill.begin (fun _ => True) 19 (by kernel_rfl) ?_
        change wpTill _ _ _ _ _ _ 21 _ _ _
        refine wpTill.free (jj := 19) (m := 2) [(0, Fact.eq (.pointer (some ⟨w.heap.size, 0, none⟩))),
      (1, Fact.eq (.bool true)),
      (2, Fact.eq (.bool true)),
      (3, Fact.eq (.int .i64 n)),
      (4, Fact.eq (.bool true)),
      (5, Fact.eq (.bool true)),
      (6, Fact.eq (.bool true)),
      (7, Fact.eq (.int .i64 n)),
      (8, Fact.eq (.int .i64 (n % 2 : Nat))),
      (9, Fact.eq (.bool true)),
      (10, Fact.eq (.bool true)),
      (11, Fact.eq (.pointer (some ⟨w.heap.size, 1, none⟩))),
      (12, Fact.eq (.slice A3 n3 c3)),
      (13, Fact.eq (.int .i64 n)),
      (14, Fact.mem (fun u v => ∃ A i j, v = .slice A i j ∧ Hold (fun u => Can (fun k => w.heap.size + 2 ≤ k) u (.slice A i j) (q.num.natAbs ^ n) X) u) (fun hf ⟨A, i, j, e, h⟩ => ⟨A, i, j, e, h.keep hf⟩)),
      (15, Fact.eq (.pointer (some ⟨w.heap.size, 2, none⟩))),
      (16, Fact.eq (.slice A4 n4 c4)),
      (17, Fact.eq (.int .i64 n)),
      (18, Fact.mem (fun u v => ∃ A i j, v = .slice A i j ∧ Hold (fun u => Can (fun k => w.heap.size + 2 ≤ k) u (.slice A i j) (q.den ^ n) X) u) (fun hf ⟨A, i, j, e, h⟩ => ⟨A, i, j, e, h.keep hf⟩))] [] [0, 1, 3, 7, 15, 31, 63, 127, 255, 511, 1023, 0, 2048, 0, 14463, 0, 32768, 0, 260223, 524287, 1048575] [] ?_ (by kernel_rfl) (by kernel_rfl) (by kernel_rfl) [(0, some 7), (1, some 8), (2, some 9), (3, some 10), (4, some 11), (5, some 12), (6, some 13), (7, some 14), (8, some 15), (9, some 16), (10, some 17), (11, some 18), (12, some 19), (13, some 20), (14, some 21), (15, some 22), (16, some 23), (17, some 24), (18, some 25)] (by kernel_rfl) ?hA ?hQ (fun _ _ => trivial) (by kernel_rfl) ?steps ?looses ?cont
        case hQ => exact fun _ _ _ _ _ h => h
        case hA =>
          intro vs
          simp only [fillD, List.foldl_cons, List.foldl_nil, Act.put, List.setIfInBounds_toArray, List.set_cons_zero, List.set_cons_succ]
          exact rfl
        case steps =>
          refine ⟨?_, ?_, ?_, ?_, ?_, ?_, ?_, ?_, ?_, ?_, ?_, ?_, ?_, ?_, ?_, ?_, ?_, ?_, ?_, trivial⟩
          · rintro vs u ⟨hV0, hV1, hV2, hV3, hV4, hV5, hV6, hV7, hV8, hV9, hV10, hV11, hV12, hV13, hV14, hV15, hV16, hV17, hV18, -⟩ G
            exact stepAt.pure (v := .pointer (some ⟨w.heap.size, 0, none⟩)) rfl rfl (by go_simp) rfl
          · rintro vs u ⟨hV0, hV1, hV2, hV3, hV4, hV5, hV6, hV7, hV8, hV9, hV10, hV11, hV12, hV13, hV14, hV15, hV16, hV17, hV18, -⟩ G
            have o0 := (B2.keep G).c0
            have eV0 : vs 0 = .pointer (some ⟨w.heap.size, 0, none⟩) := hV0 rfl
            exact stepAt.pure (v := .bool true) rfl rfl (by simp only [eV0]; go_simp) rfl
          · rintro vs u ⟨hV0, hV1, hV2, hV3, hV4, hV5, hV6, hV7, hV8, hV9, hV10, hV11, hV12, hV13, hV14, hV15, hV16, hV17, hV18, -⟩ G
            have eV1 : vs 1 = .bool true := hV1 rfl
            exact stepAt.pure (v := .bool true) rfl rfl (by simp only [eV1]; go_simp) rfl
          · rintro vs u ⟨hV0, hV1, hV2, hV3, hV4, hV5, hV6, hV7, hV8, hV9, hV10, hV11, hV12, hV13, hV14, hV15, hV16, hV17, hV18, -⟩ G
            exact stepAt.pure (v := .int .i64 n) rfl (wanted_by (g := 2) (b := true) (t := 9) rfl (by kernel_rfl) (congrArg some (show vs 2 = _ from hV2 rfl))) (by go_simp) rfl
          · rintro vs u ⟨hV0, hV1, hV2, hV3, hV4, hV5, hV6, hV7, hV8, hV9, hV10, hV11, hV12, hV13, hV14, hV15, hV16, hV17, hV18, -⟩ G
            have eV3 : vs 3 = .int .i64 n := hV3 rfl
            exact stepAt.pure (v := .bool true) rfl (wanted_by (g := 2) (b := true) (t := 9) rfl (by kernel_rfl) (congrArg some (show vs 2 = _ from hV2 rfl))) (by simp only [eV3]; go_simp) rfl
          · rintro vs u ⟨hV0, hV1, hV2, hV3, hV4, hV5, hV6, hV7, hV8, hV9, hV10, hV11, hV12, hV13, hV14, hV15, hV16, hV17, hV18, -⟩ G
            have eV2 : vs 2 = .bool true := hV2 rfl
            have eV4 : vs 4 = .bool true := hV4 rfl
            exact stepAt.pure (v := .bool true) rfl rfl (by simp only [eV2, eV4]; go_simp) rfl
          · rintro vs u ⟨hV0, hV1, hV2, hV3, hV4, hV5, hV6, hV7, hV8, hV9, hV10, hV11, hV12, hV13, hV14, hV15, hV16, hV17, hV18, -⟩ G
            have eV5 : vs 5 = .bool true := hV5 rfl
            exact stepAt.pure (v := .bool true) rfl rfl (by simp only [eV5]; go_simp) rfl
          · rintro vs u ⟨hV0, hV1, hV2, hV3, hV4, hV5, hV6, hV7, hV8, hV9, hV10, hV11, hV12, hV13, hV14, hV15, hV16, hV17, hV18, -⟩ G
            exact stepAt.pure (v := .int .i64 n) rfl (wanted_by (g := 6) (b := true) (t := 13) rfl (by kernel_rfl) (congrArg some (show vs 6 = _ from hV6 rfl))) (by go_simp) rfl
          · rintro vs u ⟨hV0, hV1, hV2, hV3, hV4, hV5, hV6, hV7, hV8, hV9, hV10, hV11, hV12, hV13, hV14, hV15, hV16, hV17, hV18, -⟩ G
            have eV7 : vs 7 = .int .i64 n := hV7 rfl
            exact stepAt.pure (v := .int .i64 (n % 2 : Nat)) rfl (wanted_by (g := 6) (b := true) (t := 13) rfl (by kernel_rfl) (congrArg some (show vs 6 = _ from hV6 rfl))) (by simp only [eV7]; go_simp) rfl
          · rintro vs u ⟨hV0, hV1, hV2, hV3, hV4, hV5, hV6, hV7, hV8, hV9, hV10, hV11, hV12, hV13, hV14, hV15, hV16, hV17, hV18, -⟩ G
            have eV8 : vs 8 = .int .i64 (n % 2 : Nat) := hV8 rfl
            exact stepAt.pure (v := .bool true) rfl (wanted_by (g := 6) (b := true) (t := 13) rfl (by kernel_rfl) (congrArg some (show vs 6 = _ from hV6 rfl))) (by simp only [eV8]; go_simp) rfl
          · rintro vs u ⟨hV0, hV1, hV2, hV3, hV4, hV5, hV6, hV7, hV8, hV9, hV10, hV11, hV12, hV13, hV14, hV15, hV16, hV17, hV18, -⟩ G
            have eV6 : vs 6 = .bool true := hV6 rfl
            have eV9 : vs 9 = .bool true := hV9 rfl
            exact stepAt.pure (v := .bool true) rfl rfl (by simp only [eV6, eV9]; go_simp) rfl
          · rintro vs u ⟨hV0, hV1, hV2, hV3, hV4, hV5, hV6, hV7, hV8, hV9, hV10, hV11, hV12, hV13, hV14, hV15, hV16, hV17, hV18, -⟩ G
            exact stepAt.pure (v := .pointer (some ⟨w.heap.size, 1, none⟩)) rfl rfl (by go_simp) rfl
          · rintro vs u ⟨hV0, hV1, hV2, hV3, hV4, hV5, hV6, hV7, hV8, hV9, hV10, hV11, hV12, hV13, hV14, hV15, hV16, hV17, hV18, -⟩ G
            have o0 := (B2.keep G).c1
            have eV11 : vs 11 = .pointer (some ⟨w.heap.size, 1, none⟩) := hV11 rfl
            exact stepAt.pure (v := .slice A3 n3 c3) rfl rfl (by simp only [eV11]; go_simp) rfl
          · rintro vs u ⟨hV0, hV1, hV2, hV3, hV4, hV5, hV6, hV7, hV8, hV9, hV10, hV11, hV12, hV13, hV14, hV15, hV16, hV17, hV18, -⟩ G
            exact stepAt.pure (v := .int .i64 n) rfl rfl (by go_simp) rfl
          · rintro vs u ⟨hV0, hV1, hV2, hV3, hV4, hV5, hV6, hV7, hV8, hV9, hV10, hV11, hV12, hV13, hV14, hV15, hV16, hV17, hV18, -⟩ G
            refine stepAt.call (f := 91) (args := #[vs 12, vs 13]) rfl rfl (by go_simp) ?_
            have eV12 : vs 12 = .slice A3 n3 c3 := hV12 rfl
            have eV13 : vs 13 = .int .i64 n := hV13 rfl
            rw [eV12, eV13]
            with_reducible refine (pow_n u (.slice A3 n3 c3) q.num.natAbs L n X (H1.out.num.keep G).num hl hX hn HPN.out hX2).mono ?_
            rintro e u' ⟨v3, rfl, hc, hf⟩
            obtain ⟨P, i, j, rfl⟩ := hc.form
            exact ⟨_, rfl, hf, _, _, _, rfl, fun u' hu' => (hc.mono fun k hk => Nat.le_trans (by have := G.size; have : w2.drew.heap.size = w2.heap.size := rfl; omega) hk).keep hu'⟩
          · rintro vs u ⟨hV0, hV1, hV2, hV3, hV4, hV5, hV6, hV7, hV8, hV9, hV10, hV11, hV12, hV13, hV14, hV15, hV16, hV17, hV18, -⟩ G
            exact stepAt.pure (v := .pointer (some ⟨w.heap.size, 2, none⟩)) rfl rfl (by go_simp) rfl
          · rintro vs u ⟨hV0, hV1, hV2, hV3, hV4, hV5, hV6, hV7, hV8, hV9, hV10, hV11, hV12, hV13, hV14, hV15, hV16, hV17, hV18, -⟩ G
            have o0 := (B2.keep G).c2
            have eV15 : vs 15 = .pointer (some ⟨w.heap.size, 2, none⟩) := hV15 rfl
            exact stepAt.pure (v := .slice A4 n4 c4) rfl rfl (by simp only [eV15]; go_simp) rfl
          · rintro vs u ⟨hV0, hV1, hV2, hV3, hV4, hV5, hV6, hV7, hV8, hV9, hV10, hV11, hV12, hV13, hV14, hV15, hV16, hV17, hV18, -⟩ G
            exact stepAt.pure (v := .int .i64 n) rfl rfl (by go_simp) rfl
          · rintro vs u ⟨hV0, hV1, hV2, hV3, hV4, hV5, hV6, hV7, hV8, hV9, hV10, hV11, hV12, hV13, hV14, hV15, hV16, hV17, hV18, -⟩ G
            refine stepAt.call (f := 91) (args := #[vs 16, vs 17]) rfl rfl (by go_simp) ?_
            have eV16 : vs 16 = .slice A4 n4 c4 := hV16 rfl
            have eV17 : vs 17 = .int .i64 n := hV17 rfl
            rw [eV16, eV17]
            with_reducible refine (pow_n u (.slice A4 n4 c4) q.den L n X (H1.out.den.keep G).num hl hX hn HPD.out hX2).mono ?_
            rintro e u' ⟨v3, rfl, hc, hf⟩
            obtain ⟨P, i, j, rfl⟩ := hc.form
            exact ⟨_, rfl, hf, _, _, _, rfl, fun u' hu' => (hc.mono fun k hk => Nat.le_trans (by have := G.size; have : w2.drew.heap.size = w2.heap.size := rfl; omega) hk).keep hu'⟩
        case looses =>
          exact trivial
        case cont =>
          rintro vs u ⟨hV0, hV1, hV2, hV3, hV4, hV5, hV6, hV7, hV8, hV9, hV10, hV11, hV12, hV13, hV14, hV15, hV16, hV17, hV18, -⟩ G
          have eV0 : vs 0 = .pointer (some ⟨w.heap.size, 0, none⟩) := hV0
          have eV1 : vs 1 = .bool true := hV1
          have eV2 : vs 2 = .bool true := hV2
          have eV3 : vs 3 = .int .i64 n := hV3
          have eV4 : vs 4 = .bool true := hV4
          have eV5 : vs 5 = .bool true := hV5
          have eV6 : vs 6 = .bool true := hV6
          have eV7 : vs 7 = .int .i64 n := hV7
          have eV8 : vs 8 = .int .i64 (n % 2 : Nat) := hV8
          have eV9 : vs 9 = .bool true := hV9
          have eV10 : vs 10 = .bool true := hV10
          have eV11 : vs 11 = .pointer (some ⟨w.heap.size, 1, none⟩) := hV11
          have eV12 : vs 12 = .slice A3 n3 c3 := hV12
          have eV13 : vs 13 = .int .i64 n := hV13
          obtain ⟨P3, i3, j3, eV14, p3⟩ := hV14
          replace eV14 : vs 14 = _ := eV14
          have eV15 : vs 15 = .pointer (some ⟨w.heap.size, 2, none⟩) := hV15
          have eV16 : vs 16 = .slice A4 n4 c4 := hV16
          have eV17 : vs 17 = .int .i64 n := hV17
          obtain ⟨P4, i4, j4, eV18, p4⟩ := hV18
          replace eV18 : vs 18 = _ := eV18
          simp only [eV0, eV1, eV2, eV3, eV4, eV5, eV6, eV7, eV8, eV9, eV10, eV11, eV12, eV13, eV14, eV15, eV16, eV17, eV18]
          clear eV0 eV1 eV2 eV3 eV4 eV5 eV6 eV7 eV8 eV9 eV10 eV11 eV12 eV13 eV14 eV15 eV16 eV17 eV18 hV0 hV1 hV2 hV3 hV4 hV5 hV6 hV7 hV8 hV9 hV10 hV11 hV12 hV13 hV15 hV16 hV17
          clear HPN HPD H1
          refine wpTill.next 19 rfl (by kernel_rfl) (by rfl) (fun K hK => ?_)
          go_simp
          refine hK _ _ (no_wait (by kernel_rfl)) ?_
          clear hK K
          replace hb := hb.keep G
          replace F := fr_then F G
          have g0 := hb.free 0
          have g1 := hb.free 1
          have g2 := hb.free 2
          have d0 := hb.c0
          have d1 := hb.c1
          have d2 := hb.c2
          refine wpTill.next 20 rfl (by kernel_rfl) (by rfl) (fun K hK => ?_)
          go_simp
          refine hK _ _ (no_wait (by kernel_rfl)) ?_
          clear hK K
          refine wpTill.done (by kernel_rfl) ?_
          have B6 := hb.set3 (.bool true) (.slice P3 i3 j3) (.slice P4 i4 j4)
          have F4 := fr_set3 u (w.heap.size + 1) (.bool true) (.slice P3 i3 j3) (.slice P4 i4 j4)
          go_wp2_with fail
          refine bodyPost_ret (results_cell3 rfl rfl B6 Tryz.underlying51 rat3) rfl ?_
          exact ⟨_, _, by rw [HSG.out], ⟨by rw [HP.out]; exact p3.now.out F4 (fun k hk => by omega) (by omega), by rw [HD.out]; exact p4.now.out F4 (fun k hk => by omega) (by omega)⟩, F.comp F4 fun k hk h => ⟨h, by omega⟩⟩
end Go.Proofs.YtlknmoegngjpcaaGreat


/- The document's Pow of a rational. -/
namespace Go.Proofs.YtlknmoegngjpcaaGreat
open Go.RowKit

theorem pow_dg {N L n j K : Nat} (h : N < DB ^ L) (hj : j ≤ n) (hK : L * n + 1 ≤ K) : (dg DB (N ^ j)).length ≤ K :=
  dg_len_le DB2 (pow_roomD h (by have := Nat.mul_le_mul_left L hj; omega))

set_option maxHeartbeats 4000000 in
theorem rrpow_t {S : Nat → Prop} (w : World) (s : Bool) (vn vd : Value) (q : Rat) (L n K : Nat) (h : RR S w vn vd q L) (hs : s = sg q) (hK : L * n + 6 ≤ K) (hLK : L ≤ K) (hl : K ≤ 52428800) (hn : n < 9223372036854775807) :
    Calls Tryz.prog 54 #[.agg #[.bool s, vn, vd], .int .i64 n] w fun e w' => ∃ s' v1 v2, e = .returned (.agg #[.bool s', v1, v2]) ∧ Hid (s' = sg (q ^ n)) ∧ Hid (RR (fun k => w.heap.size ≤ k) w' v1 v2 (q ^ n) K) ∧ Fr (fun k => k < w.heap.size) w w' := by
  obtain ⟨⟨A1, n1, c1, rfl⟩, ⟨A2, n2, c2, rfl⟩⟩ := h.form
  have F := ((Fr.refl (fun k => k < w.heap.size) w).alloc (.cells #[.bool s, .slice A1 n1 c1, .slice A2 n2 c2] 56)).alloc (.cells #[.bool false, .slice none 0 0, .slice none 0 0] 56)
  have x0 := (Box3.new w 56 (.bool s) (.slice A1 n1 c1) (.slice A2 n2 c2)).alloc (.cells #[.bool false, .slice none 0 0, .slice none 0 0] 56)
  have b1 := Box3.new (w.alloc (.cells #[.bool s, .slice A1 n1 c1, .slice A2 n2 c2] 56)) 56 (.bool false) (.slice none 0 0) (.slice none 0 0)
  simp only [World.size_alloc] at b1
  have HS := Lib.hid hs
  have HQ := Lib.hid h.low
  have HB := Lib.hid (show ∀ j, j ≤ n → (dg DB (q ^ j).num.natAbs).length ≤ K ∧ (dg DB (q ^ j).den).length ≤ K from fun j hj => by
    rw [Rat.num_pow, Int.natAbs_pow, Rat.den_pow]
    exact ⟨pow_dg h.num.lt hj (by omega), pow_dg h.den.lt hj (by omega)⟩)
  clear h hs
  go_enter Tryz.func54, Tryz.ntmps54
  go_wp2_with fail
  with_reducible refine (rint_s _ 1 (by decide) (by decide)).mono ?_
  rintro e w1 ⟨s0, v1, v2, rfl, hs0, h0, hf⟩
  obtain ⟨⟨Q1, i1, j1, rfl⟩, ⟨Q2, i2, j2, rfl⟩⟩ := h0.out.form
  have s1 := hf.size
  simp only [World.size_alloc] at s1
  have al := fun R => (Fr.refl R w1).alloc (.cells #[.bool s0, .slice Q1 i1 j1, .slice Q2 i2 j2] 56)
  have b3 := Box3.new w1 56 (.bool s0) (.slice Q1 i1 j1) (.slice Q2 i2 j2)
  replace x0 := (x0.keep hf).keep (al _)
  replace b1 := (b1.keep hf).keep (al _)
  replace F := fr_then (fr_then F hf) (al _)
  have HT := Lib.hid (show s0 = sg (q ^ 0) by rw [Rat.pow_zero]; exact hs0.out)
  have HR := Lib.hid (show RR (fun k => w.heap.size + 2 ≤ k ∧ k ≠ w1.heap.size) _ _ _ (q ^ 0) K by rw [Rat.pow_zero]; exact ((h0.out.bd.fr (al _)).mono fun k hk => ⟨by simp only [World.size_alloc] at hk; omega, by omega⟩).wide (by omega))
  clear hs0 h0 hf al
  go_wp2_with fail
  go_loopw [6] (fun i wr => ∃ (j : Nat) (t : Bool) (v1 v2 : Value), i = .int .i64 j ∧ j ≤ n ∧ Box3 wr w.heap.size 56 (.bool s) (.slice A1 n1 c1) (.slice A2 n2 c2) ∧ Box3 wr (w.heap.size + 1) 56 (.bool false) (.slice none 0 0) (.slice none 0 0) ∧ Box3 wr w1.heap.size 56 (.bool t) v1 v2 ∧ Hid (t = sg (q ^ j)) ∧ Hid (RR (fun k => w.heap.size + 2 ≤ k ∧ k ≠ w1.heap.size) wr v1 v2 (q ^ j) K) ∧ Fr (fun k => k < w.heap.size) w wr) (fun i _ => n - (intOf i).toNat)
  case atStart => exact ⟨0, _, _, _, rfl, by omega, x0, b1, b3, HT, HR, F⟩
  case round =>
    clear x0 b1 b3 HT HR F
    obtain ⟨j, t, v1, v2, rfl, hj, x0, b1, b3, HT, HR, F⟩ := hrel
    obtain ⟨⟨Q1, i1, j1, rfl⟩, ⟨Q2, i2, j2, rfl⟩⟩ := HR.out.form
    have lt1 := b3.lt
    by_cases hlt : j < n
    · have HB1 := Lib.hid (HB.out (j + 1) hlt)
      have d0 := x0.c0
      have d1 := x0.c1
      have d2 := x0.c2
      have e0 := b3.c0
      have e1 := b3.c1
      have e2 := b3.c2
      go_wp2_with fail
      with_reducible refine (rmul_h _ t s (.slice Q1 i1 j1) (.slice Q2 i2 j2) (.slice A1 n1 c1) (.slice A2 n2 c2) (q ^ j) q K HR (Lib.hid ((HQ.out.fr F).wide hLK)) HT HS (by omega) (by omega)).mono ?_
      rintro e u1 ⟨s9, v3, v4, rfl, hs9, h9, hf⟩
      obtain ⟨⟨Q5, i5, j5, rfl⟩, ⟨Q6, i6, j6, rfl⟩⟩ := h9.out.form
      have s2 := F.size
      have s3 := hf.size
      replace x0 := x0.keep hf
      replace b1 := b1.keep hf
      replace b3 := b3.keep hf
      replace F := fr_then F hf
      clear hf d0 d1 d2 e0 e1 e2 HR
      go_wp2_with ((with_reducible apply wpList_st3); rfl; rfl; exact b3; exact ref3; rfl; rfl; rfl; intro u2 B2 F2)
      have HT' := Lib.hid (show s9 = sg (q ^ (j + 1)) by rw [Rat.pow_succ]; exact hs9.out)
      have HR' := Lib.hid (show RR (fun k => w.heap.size + 2 ≤ k ∧ k ≠ w1.heap.size) u2 (.slice Q5 i5 j5) (.slice Q6 i6 j6) (q ^ (j + 1)) K by
        refine RR.sizes (L := 2 * K) ?_ HB1.out.1 HB1.out.2
        rw [Rat.pow_succ]
        exact ((h9.out.past F2 fun k hk => by omega).mono fun k hk => ⟨by omega, by omega⟩))
      have g0 := x0.fr F2 (by omega)
      have g1 := b1.fr F2 (by omega)
      have g2 := F.comp F2 (R := fun k => k < w.heap.size) fun k _ hk => ⟨hk, by omega⟩
      clear x0 b1 b3 F F2 h9 hs9 HT
      go_roundw
      case rel => exact ⟨j + 1, _, _, _, by go_num, by omega, g0, g1, B2, HT', HR', g2⟩
      case measure => first | (simp [intOf]; done) | (simp [intOf]; omega)
    · obtain rfl : j = n := by omega
      have e0 := b3.c0
      have e1 := b3.c1
      have e2 := b3.c2
      have lt0 := b1.lt
      go_wp2_with ((with_reducible apply wpList_st3); rfl; rfl; exact b1; exact ref3; rfl; rfl; rfl; intro u2 B2 F2)
      refine bodyPost_ret (results_cell3 rfl rfl B2 Tryz.underlying56 ref3) rfl ?_
      exact ⟨_, _, _, rfl, HT, Lib.hid (((HR.out.fr (F2.mono fun k _ hk => by omega))).mono fun k hk => by omega), F.comp F2 fun k _ hk => ⟨hk, by omega⟩⟩
end Go.Proofs.YtlknmoegngjpcaaGreat


/- point.Pow. -/
namespace Go.Proofs.YtlknmoegngjpcaaGreat
open Go.RowKit

theorem pow_room {a k L X : Nat} (ha : a < LB ^ L) (hk : L * k < X) : a ^ k < LB ^ X := by
  have h1 : a ^ k ≤ LB ^ (L * k) := by rw [Nat.pow_mul]; exact Nat.pow_le_pow_left (Nat.le_of_lt ha) k
  exact Nat.lt_of_le_of_lt h1 (Nat.pow_lt_pow_right LB2 hk)
/-- the error of Pow -/
def powE (sh : List Int) (es : List RatL) (n : Int) : Int := if mayT sh es ≠ 0 then mayT sh es else if n < 0 ∨ 16 < n then 11 else 0

set_option maxHeartbeats 2000000 in
theorem pow1_t {S : Nat → Prop} (w : World) (s : Bool) (vn vd : Value) (q : Rat) (N D L b n : Nat) (h : RI S w s vn vd q N D L) (hx : Box w b 3 (.int .i64 n)) (hL1 : 1 ≤ L) (hl : L ≤ 2097152) (hn : n ≤ 16) (hqn : q.num.natAbs < LB ^ L) (hqd : q.den < LB ^ L) :
    Calls Tryz.prog 50 #[.agg #[.bool s, vn, vd], .pointer (some ⟨b, 0, none⟩)] w (Ans (q ^ n) w) := by
  obtain ⟨⟨A1, n1, c1, rfl⟩, ⟨A2, n2, c2, rfl⟩⟩ := h.form
  have F := ((Fr.refl (fun k => k < w.heap.size) w).alloc (.cells #[.bool s, .slice A1 n1 c1, .slice A2 n2 c2] 51)).alloc (.cells #[.bool false, .slice none 0 0, .slice none 0 0] 51)
  have hb := box_nz (w.alloc (.cells #[.bool s, .slice A1 n1 c1, .slice A2 n2 c2] 51))
  have x1 := (Box3.new w 51 (.bool s) (.slice A1 n1 c1) (.slice A2 n2 c2)).alloc (.cells #[.bool false, .slice none 0 0, .slice none 0 0] 51)
  have x2 := hx.fr F hx.lt
  simp only [World.size_alloc] at hb
  have H := Lib.hid (RI.low h)
  have HN := Lib.hid (pow_room (X := 16 * L + 2) hqn (show L * n < 16 * L + 2 by have := Nat.mul_le_mul_left L hn; omega))
  have HD := Lib.hid (pow_room (X := 16 * L + 2) hqd (show L * n < 16 * L + 2 by have := Nat.mul_le_mul_left L hn; omega))
  clear h hx hqn hqd
  have d0 := x1.c0
  have d1 := x1.c1
  have d2 := x1.c2
  have e0 := x2.cell
  go_enter Tryz.func50, Tryz.ntmps50
  go_wp2_with fail
  generalize (w.alloc (.cells #[.bool s, .slice A1 n1 c1, .slice A2 n2 c2] 51)).alloc (.cells #[.bool false, .slice none 0 0, .slice none 0 0] 51) = W at F hb x1 x2 d0 d1 d2 e0 ⊢
  with_reducible refine (rpow_n _ s (.slice A1 n1 c1) (.slice A2 n2 c2) q N D L n (16 * L + 2) (H.out.fr F) hL1 (by omega) (by omega) (by omega) (by omega) HN.out HD.out).mono ?_
  rintro e w2 ⟨v1, v2, rfl, hv, hf⟩
  obtain ⟨⟨B1, m1, k1, rfl⟩, ⟨B2, m2, k2, rfl⟩⟩ := hv.form
  have lb := hb.lt
  replace hb := hb.keep hf
  replace F := fr_then F hf
  clear hf d0 d1 d2 e0 x1 x2
  go_wp2_with ((with_reducible apply wpList_st3); rfl; rfl; exact hb; exact rat3; rfl; rfl; rfl; intro w9 B9 F9)
  refine bodyPost_ret (results_cell3 rfl rfl B9 Tryz.underlying51 rat3) rfl ?_
  exact ⟨_, _, rfl, hv.ol.past F9 (fun k _ hk => by omega) (fun k hk => by omega), F.comp F9 fun k _ hk => ⟨hk, by omega⟩⟩

set_option maxHeartbeats 2000000 in
theorem ppow_t {S T : Nat → Prop} (w : World) (vs ve : Value) (sh : List Int) (es : List RatL) (n : Int) (L : Nat) (r : Int) (hr : Hid (powE sh es n = r)) (hs : Sl Im S w vs sh) (he : Sl Rm T w ve es) (hL : Hid (∀ x ∈ es, x.2.1.length ≤ L ∧ x.2.2.length ≤ L)) (hQ : Hid (∀ x ∈ es, (qOf x).num.natAbs < LB ^ L ∧ (qOf x).den < LB ^ L)) (hL1 : 1 ≤ L) (hl : L ≤ 2097152) (hsl : sh.length ≤ 1099511627000) (hel : es.length ≤ 1099511627000) (hn0 : -9223372036854775808 ≤ n) (hn1 : n ≤ 9223372036854775807) :
    Calls Tryz.prog 16 #[.agg #[vs, ve], .int .i64 n] w (EachR w sh (es.map fun x => canR (qOf x ^ n.toNat)) r) := by
  obtain ⟨A, c, rfl, _, _, hlx⟩ := hs.slice
  obtain ⟨A', c', rfl, _, _, hly⟩ := he.slice
  have F := (((Fr.refl (fun k => k < w.heap.size) w).alloc (.cells #[.slice A sh.length c, .slice A' es.length c'] 26)).alloc (.cells #[.int .i64 n] 3)).alloc (.cells #[.slice none 0 0, .slice none 0 0] 26)
  have x0 := ((Box2.new w 26 (.slice A sh.length c) (.slice A' es.length c')).alloc (.cells #[.int .i64 n] 3)).alloc (.cells #[.slice none 0 0, .slice none 0 0] 26)
  have x1 := (Box.new (w.alloc (.cells #[.slice A sh.length c, .slice A' es.length c'] 26)) 3 (.int .i64 n)).alloc (.cells #[.slice none 0 0, .slice none 0 0] 26)
  have b2 := Box2.new ((w.alloc (.cells #[.slice A sh.length c, .slice A' es.length c'] 26)).alloc (.cells #[.int .i64 n] 3)) 26 (.slice none 0 0) (.slice none 0 0)
  simp only [World.size_alloc] at b2 x1
  have HS := Lib.hid (hs.low Im_pos)
  have HE := Lib.hid (he.low Rm_pos)
  clear hs he
  have a0 := x0.c0
  have a1 := x0.c1
  obtain ⟨m, hm⟩ : ∃ m, mayT sh es = m := ⟨_, rfl⟩
  have HM := Lib.hid hm
  have HR := Lib.hid (show (if m ≠ 0 then m else if n < 0 ∨ 16 < n then 11 else 0) = r by rw [← hr.out, ← hm]; rfl)
  clear hr hm
  go_enter Tryz.func16, Tryz.ntmps16
  go_wp2_with fail
  generalize ((w.alloc (.cells #[.slice A sh.length c, .slice A' es.length c'] 26)).alloc (.cells #[.int .i64 n] 3)).alloc (.cells #[.slice none 0 0, .slice none 0 0] 26) = W0 at F x0 x1 b2 a0 a1 ⊢
  with_reducible refine (may_h _ (.slice A sh.length c) (.slice A' es.length c') sh es L m HM (HS.out.fr F) (HE.out.fr F) hL.out hL1 (by omega)).mono ?_
  rintro e W1 ⟨rfl, hf⟩
  have l2 := b2.lt
  replace x0 := x0.keep hf
  replace x1 := x1.fr hf x1.lt
  replace b2 := b2.keep hf
  replace F := fr_then F hf
  clear hf a0 a1
  by_cases h0 : m = 0
  case neg =>
    have hb0 : (m == 0) = false := beq_eq_false_iff_ne.2 h0
    have hrm : m = r := by rw [← HR.out, if_pos h0]
    clear HR
    subst hrm
    go_wp2_with ((with_reducible apply wpList_st2); rfl; rfl; exact b2; exact ten2; rfl; rfl; intro w9 B9 F9)
    refine bodyPost_ret (results_cell2_tmp rfl rfl B9 Tryz.underlying26 ten2) rfl ?_
    exact ⟨none, 0, 0, none, 0, 0, rfl, fun _ => ⟨rfl, rfl⟩, fun h => absurd h h0, F.comp F9 fun k _ hk => ⟨hk, by omega⟩⟩
  subst h0
  have e1 := x1.cell
  by_cases h1 : n < 0 ∨ 16 < n
  · have hrm : r = 11 := by rw [← HR.out, if_neg (by decide), if_pos h1]
    clear HR
    subst hrm
    go_wp2_with ((with_reducible apply wpList_st2); rfl; rfl; exact b2; exact ten2; rfl; rfl; intro w9 B9 F9)
    all_goals
      refine bodyPost_ret (results_cell2_tmp rfl rfl B9 Tryz.underlying26 ten2) rfl ?_
      exact ⟨none, 0, 0, none, 0, 0, rfl, fun _ => ⟨rfl, rfl⟩, fun h => absurd h (by decide), F.comp F9 fun k _ hk => ⟨hk, by omega⟩⟩
  have hrm : r = 0 := by rw [← HR.out, if_neg (by decide), if_neg h1]
  clear HR
  subst hrm
  obtain ⟨k, rfl⟩ : ∃ k : Nat, n = k := ⟨n.toNat, by omega⟩
  have a0 := x0.c0
  have a1 := x0.c1
  go_wp2_with fail
  have p := Lib.hid (each_t 50 #[.pointer (some ⟨w.heap.size + 1, 0, none⟩)] (fun x => canR (qOf x ^ k)) (fun args u => by go_simp) W1 (.slice A sh.length c) (.slice A' es.length c') sh es L 0 HM (HS.out.fr F) (HE.out.fr F) hL hL1 (by omega) (Lib.hid fun _ u x vn vd X hm hf h1 h2 =>
    pow1_t u x.1 vn vd (qOf x) _ _ L (w.heap.size + 1) k (ri_x h1 h2 (hL.out x hm)) (x1.fr hf x1.lt) hL1 hl (by omega) (hQ.out x hm).1 (hQ.out x hm).2) hsl hel)
  with_reducible refine p.out.mono ?_
  rintro e w3 ⟨A1, n1', c1', A2, n2', c2', rfl, hno, hyes, hf⟩
  have l2 := b2.lt
  replace b2 := b2.keep hf
  have s3 := F.size
  replace F := fr_then F hf
  clear hf p x0 a0 a1 e1
  go_wp2_with ((with_reducible apply wpList_st2); rfl; rfl; exact b2; exact ten2; rfl; rfl; intro w9 B9 F9)
  refine bodyPost_ret (results_cell2_tmp rfl rfl B9 Tryz.underlying26 ten2) rfl ?_
  exact ⟨_, _, _, _, _, _, rfl, hno, fun _ => ⟨((hyes (by trivial)).1.past F9 fun k hk => by omega).mono fun k hk => by omega, ((hyes (by trivial)).2.past F9 fun k hk => by omega).mono fun k hk => by omega⟩, F.comp F9 fun k _ hk => ⟨hk, by omega⟩⟩
end Go.Proofs.YtlknmoegngjpcaaGreat
