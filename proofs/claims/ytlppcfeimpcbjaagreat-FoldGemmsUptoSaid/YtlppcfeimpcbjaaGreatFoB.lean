import Derived.Test.YtlppcfeimpcbjaaGreatFoldA
import Derived.Test.YtlppcfeimpcbjaaGreatFoldB
set_option linter.unusedSimpArgs false
set_option linter.unusedVariables false

/- fold.MatMul: printed by gen_fob.py. -/
namespace Go.Proofs.YtlppcfeimpcbjaaGreat
open Go.RowKit Go.Shelf
attribute [local go_sem] Oper.semAt_some

/-- Why there is no product of matrices. -/
def mmE (sha : List Int) (ea : List RatL) (shb : List Int) (eb : List RatL) : Int :=
  if mayT sha ea ≠ 0 then mayT sha ea else if mayT shb eb ≠ 0 then mayT shb eb else if sha.length = 2 ∧ shb.length = 2 ∧ sha.getD 1 0 = shb.getD 0 0 then mayS [sha.getD 0 0, shb.getD 1 0] else 13
section
variable {sha shb : List Int} {ea eb : List RatL}
theorem mmE_a (h : mayT sha ea ≠ 0) : mmE sha ea shb eb = mayT sha ea := if_pos h
theorem mmE_b (h : mayT sha ea = 0) (h1 : mayT shb eb ≠ 0) : mmE sha ea shb eb = mayT shb eb := by
  unfold mmE
  rw [if_neg (by simpa using h), if_pos h1]
theorem mmE_13 (h : mayT sha ea = 0) (h1 : mayT shb eb = 0) (h2 : ¬ (sha.length = 2 ∧ shb.length = 2 ∧ sha.getD 1 0 = shb.getD 0 0)) : mmE sha ea shb eb = 13 := by
  unfold mmE
  rw [if_neg (by simpa using h), if_neg (by simpa using h1), if_neg h2]
theorem mmE_s (h : mayT sha ea = 0) (h1 : mayT shb eb = 0) (h2 : sha.length = 2 ∧ shb.length = 2 ∧ sha.getD 1 0 = shb.getD 0 0) : mmE sha ea shb eb = mayS [sha.getD 0 0, shb.getD 1 0] := by
  unfold mmE
  rw [if_neg (by simpa using h), if_neg (by simpa using h1), if_pos h2]
end
/-- What lies in memory from the beginning on. -/
structure MMI (w : World) (va vea vb veb : Value) (sha : List Int) (ea : List RatL) (shb : List Int) (eb : List RatL) (W : World) : Prop where
  a1 : Sl Im (fun k => k < w.heap.size) W va sha
  a2 : Sl Rm (fun k => k < w.heap.size) W vea ea
  b1 : Sl Im (fun k => k < w.heap.size) W vb shb
  b2 : Sl Rm (fun k => k < w.heap.size) W veb eb
  x0 : Box2 W w.heap.size 26 va vea
  x1 : Box2 W (w.heap.size + 1) 26 vb veb
  x2 : Box2 W (w.heap.size + 2) 26 (.slice none 0 0) (.slice none 0 0)
  fr : Fr (fun k => k < w.heap.size) w W
theorem MMI.keep {w : World} {va vea vb veb : Value} {sha shb : List Int} {ea eb : List RatL} {W W' : World} (h : MMI w va vea vb veb sha ea shb eb W) {R : Nat → Prop} (hf : Fr R W W') (hR : ∀ k, k < w.heap.size + 3 → R k) : MMI w va vea vb veb sha ea shb eb W' :=
  ⟨h.a1.fr (hf.mono fun k _ hk => hR k (by omega)), h.a2.fr (hf.mono fun k _ hk => hR k (by omega)), h.b1.fr (hf.mono fun k _ hk => hR k (by omega)), h.b2.fr (hf.mono fun k _ hk => hR k (by omega)),
    h.x0.fr hf (hR _ (by omega)), h.x1.fr hf (hR _ (by omega)), h.x2.fr hf (hR _ (by omega)), h.fr.comp hf fun k _ hk => ⟨hk, hR k (by omega)⟩⟩
theorem MMI.lt {w : World} {va vea vb veb : Value} {sha shb : List Int} {ea eb : List RatL} {W : World} (h : MMI w va vea vb veb sha ea shb eb W) : w.heap.size + 3 ≤ W.heap.size := h.x2.lt
theorem results_mm {tmps : Array Value} {w : World} {b : Nat} {x y : Value} {r : Int} (hc : tmps.getD 4 undef = .pointer (some ⟨b, 0, none⟩)) (he : tmps.getD 5 undef = .int .i64 r) (hb : Box2 w b 26 x y) :
    (results Tryz.f20 tmps).run Tryz.prog w = .ok (.tuple #[.agg #[x, y], .int .i64 r]) w := by
  have h0 := hb.c0
  have h1 := hb.c1
  rw [Array.getD_eq_getD_getElem?] at hc he
  simp [results, Tryz.f20, hc, he, asAddr, go_sem, h0, h1]

/-- What lies in memory while the places are gone over. -/
def MMJ {N : Nat} (f : Fin N → RatL) (b13 n : Nat) (s : Value) (w : World) (pre : List (Fin N)) (W : World) : Prop :=
  ∃ v2, Box2 W b13 26 s v2 ∧ Own RZ 54 (fun k => n ≤ k) W v2 (pre.map f) ∧ Fr (fun k => k < n ∧ k ≠ b13) w W
theorem MMJ.own {N : Nat} {f : Fin N → RatL} {b13 n : Nat} {s : Value} {w : World} (hb : b13 < n) : OwnFrom n (fun pre W => MMJ f b13 n s w pre W) := fun pre W W' row hs hg hr => by
  obtain ⟨v2, h1, h2, h3⟩ := hs
  exact ⟨v2, grown_cells hg hr h1, h2.turn (fun _ _ _ => RZ_cl) hg hr, h3.comp (Fr.of_grown hg) fun k _ hk => ⟨hk, fun e => by have := (hr k e.symm).1; omega⟩⟩
theorem fin_map {α : Type} (f : Nat → α) (N : Nat) : (List.finRange N).map (fun x => f x.val) = (List.range N).map f :=
  List.ext_getElem (by simp) fun i h1 h2 => by simp

set_option maxRecDepth 100000 in
set_option maxHeartbeats 16000000 in
theorem mm_t {S T U V : Nat → Prop} (w : World) (va vea vb veb : Value) (sha shb : List Int) (ea eb : List RatL) (L K : Nat) (r : Int) (hr : Hid (mmE sha ea shb eb = r)) (ha : Sl Im S w va sha) (hea : Sl Rm T w vea ea) (hb : Sl Im U w vb shb) (heb : Sl Rm V w veb eb)
    (hLa : ∀ x ∈ ea, x.2.1.length ≤ L ∧ x.2.2.length ≤ L) (hLb : ∀ x ∈ eb, x.2.1.length ≤ L ∧ x.2.2.length ≤ L) (hL1 : 1 ≤ L) (hKL : 6 * L ≤ K) (hK6 : K ≤ 104857600)
    (hK : Hid (r = 0 → ∀ n k, k ≤ (sha.getD 1 0).toNat → Lens K (mmS (ea.map qOf) (eb.map qOf) (sha.getD 1 0).toNat (shb.getD 1 0).toNat n k))) :
    Calls Tryz.prog 20 #[.agg #[va, vea], .agg #[vb, veb]] w (EachR w [sha.getD 0 0, shb.getD 1 0] ((mmL (ea.map qOf) (eb.map qOf) (sha.getD 0 0).toNat (sha.getD 1 0).toNat (shb.getD 1 0).toNat).map canR) r) := by
  have hl : L ≤ 104857600 := by omega
  obtain ⟨A, c, rfl, _, _, _⟩ := ha.slice
  obtain ⟨A', c', rfl, _, _, hlea⟩ := hea.slice
  obtain ⟨B, d, rfl, _, _, _⟩ := hb.slice
  obtain ⟨B', d', rfl, _, _, hleb⟩ := heb.slice
  have F0 := fun R => (((Fr.refl R w).alloc (.cells #[.slice A sha.length c, .slice A' ea.length c'] 26)).alloc (.cells #[.slice B shb.length d, .slice B' eb.length d'] 26)).alloc (.cells #[.slice none 0 0, .slice none 0 0] 26)
  have x0 := ((Box2.new w 26 (.slice A sha.length c) (.slice A' ea.length c')).alloc (.cells #[.slice B shb.length d, .slice B' eb.length d'] 26)).alloc (.cells #[.slice none 0 0, .slice none 0 0] 26)
  have x1 := (Box2.new (w.alloc (.cells #[.slice A sha.length c, .slice A' ea.length c'] 26)) 26 (.slice B shb.length d) (.slice B' eb.length d')).alloc (.cells #[.slice none 0 0, .slice none 0 0] 26)
  have x2 := Box2.new ((w.alloc (.cells #[.slice A sha.length c, .slice A' ea.length c'] 26)).alloc (.cells #[.slice B shb.length d, .slice B' eb.length d'] 26)) 26 (.slice none 0 0) (.slice none 0 0)
  simp only [World.size_alloc] at x1 x2
  have I0 : MMI w (.slice A sha.length c) (.slice A' ea.length c') (.slice B shb.length d) (.slice B' eb.length d') sha ea shb eb _ := ⟨ha.up Im_pos (Nat.le_refl _) (F0 _), hea.up Rm_pos (Nat.le_refl _) (F0 _), hb.up Im_pos (Nat.le_refl _) (F0 _), heb.up Rm_pos (Nat.le_refl _) (F0 _), x0, x1, x2, F0 _⟩
  have I1 := Lib.hid (I0.keep ((Fr.refl (fun _ => True) _).alloc (.cells #[.slice A sha.length c, .slice A' ea.length c', .slice B shb.length d, .slice B' eb.length d'] 26)) fun _ _ => trivial)
  have hrow := heap_alloc_new (((w.alloc (.cells #[.slice A sha.length c, .slice A' ea.length c'] 26)).alloc (.cells #[.slice B shb.length d, .slice B' eb.length d'] 26)).alloc (.cells #[.slice none 0 0, .slice none 0 0] 26)) (.cells #[.slice A sha.length c, .slice A' ea.length c', .slice B shb.length d, .slice B' eb.length d'] 26)
  simp only [World.size_alloc] at hrow
  have HROW := Lib.hid hrow
  obtain ⟨ra, hra⟩ : ∃ r, mayT sha ea = r := ⟨_, rfl⟩
  obtain ⟨rb, hrb⟩ : ∃ r, mayT shb eb = r := ⟨_, rfl⟩
  have HRA := Lib.hid hra
  have HRB := Lib.hid hrb
  have HLA := Lib.hid hLa
  have HLB := Lib.hid hLb
  clear ha hea hb heb F0 x0 x1 x2 I0 hrow hra hrb hLa hLb
  refine (callsIn_wide (n := 3)).1 ?_
  refine callsIn_of_wp_marks Tryz.func20 rfl trivial ?_ rfl
  simp only [Tryz.ntmps20, List.size_toArray, List.length_cons, List.length_nil, Nat.reduceAdd, Nat.reduceSub, Array.replicate_succ, Array.replicate_zero, List.push_toArray, List.append_toArray, List.nil_append, List.cons_append]
  gi_wp2_with fail
  gi_loopw [22] (fun i wr => ∃ (k : Nat), k ≤ 2 ∧ i = .int .i64 k ∧ (0 < k → ra = 0) ∧ (1 < k → rb = 0) ∧ Hid (MMI w (.slice A sha.length c) (.slice A' ea.length c') (.slice B shb.length d) (.slice B' eb.length d') sha ea shb eb wr) ∧ Hid (wr.heap[w.heap.size + 1 + 1 + 1]? = some (.cells #[.slice A sha.length c, .slice A' ea.length c', .slice B shb.length d, .slice B' eb.length d'] 26 (0, 0)))) (fun i _ => 2 - (intOf i).toNat)
  case atStart => exact ⟨0, by omega, rfl, fun h => by omega, fun h => by omega, I1, HROW⟩
  case round =>
    clear I1 HROW
    obtain ⟨k, hk, rfl, hk0, hk1, I1, HROW⟩ := hrel
    have c0 := cell_of_row wr _ 0 _ _ (0, 0) HROW.out
    have c1 := cell_of_row wr _ 1 _ _ (0, 0) HROW.out
    have c2 := cell_of_row wr _ 2 _ _ (0, 0) HROW.out
    have c3 := cell_of_row wr _ 3 _ _ (0, 0) HROW.out
    simp only [List.getElem?_toArray, List.getElem?_cons_zero, List.getElem?_cons_succ] at c0 c1 c2 c3
    have lt := I1.out.lt
    have ltr := lt_of_block HROW.out
    obtain rfl | rfl | rfl : k = 0 ∨ k = 1 ∨ k = 2 := by omega
    · have I2 := I1.out.keep ((Fr.refl (fun _ => True) wr).alloc (.cells #[.slice A sha.length c, .slice A' ea.length c'] 26)) (fun _ _ => trivial)
      have HR2 := Lib.hid ((Below.heap_alloc wr (.cells #[.slice A sha.length c, .slice A' ea.length c'] 26) _ ltr).trans HROW.out)
      have PP := Lib.hid (may_t (wr.alloc (.cells #[.slice A sha.length c, .slice A' ea.length c'] 26)) (.slice A sha.length c) (.slice A' ea.length c') sha ea L I2.a1 I2.a2 HLA.out hL1 hl)
      rw [HRA.out] at PP
      have HI2 := Lib.hid I2
      have ltr2 := lt_of_block HR2.out
      clear I1 HROW I2
      gi_wp2_with fail
      refine ⟨trivial, ?_⟩
      with_reducible refine (callsIn_wide.2 PP.out).mono ?_
      rintro e w2 ⟨rfl, hf⟩
      have I3 := Lib.hid (HI2.out.keep hf (fun k hk => by have := HI2.out.lt; omega))
      have HR3 := Lib.hid (hf.obj HR2.out ltr2)
      clear HI2 HR2 PP hf
      by_cases h0 : ra = 0
      · subst h0
        gi_wp2_with fail
        go_roundw
        case rel => exact ⟨1, by omega, rfl, fun _ => by first | rfl | trivial, fun h => by omega, I3, HR3⟩
        case measure => first | (simp [intOf]; done) | (simp [intOf]; omega)
      · have HN : r = ra := hr.out.symm.trans ((mmE_a (by rw [HRA.out]; exact h0)).trans HRA.out)
        have x2 := I3.out.x2
        have d0 := x2.c0
        have d1 := x2.c1
        have f0 := x2.free 0
        have f1 := x2.free 1
        have F9 := fr_put2 w2 (w.heap.size + 2) (.slice none 0 0) (.slice none 0 0)
        have y2 := x2.set2 (.slice none 0 0) (.slice none 0 0)
        have F8 := I3.out.fr.comp F9 (R := fun k => k < w.heap.size) fun k _ hk => ⟨hk, by omega⟩
        gi_wp2_with fail
        exact ⟨_, results_mm rfl rfl y2, ⟨none, 0, 0, none, 0, 0, by rw [HN], fun _ => ⟨rfl, rfl⟩, fun h => absurd (HN.symm.trans h) h0, F8⟩⟩
    · have hra := hk0 (by omega)
      have I2 := I1.out.keep ((Fr.refl (fun _ => True) wr).alloc (.cells #[.slice B shb.length d, .slice B' eb.length d'] 26)) (fun _ _ => trivial)
      have HR2 := Lib.hid ((Below.heap_alloc wr (.cells #[.slice B shb.length d, .slice B' eb.length d'] 26) _ ltr).trans HROW.out)
      have PP := Lib.hid (may_t (wr.alloc (.cells #[.slice B shb.length d, .slice B' eb.length d'] 26)) (.slice B shb.length d) (.slice B' eb.length d') shb eb L I2.b1 I2.b2 HLB.out hL1 hl)
      rw [HRB.out] at PP
      have HI2 := Lib.hid I2
      have ltr2 := lt_of_block HR2.out
      clear I1 HROW I2
      gi_wp2_with fail
      refine ⟨trivial, ?_⟩
      with_reducible refine (callsIn_wide.2 PP.out).mono ?_
      rintro e w2 ⟨rfl, hf⟩
      have I3 := Lib.hid (HI2.out.keep hf (fun k hk => by have := HI2.out.lt; omega))
      have HR3 := Lib.hid (hf.obj HR2.out ltr2)
      clear HI2 HR2 PP hf
      by_cases h0 : rb = 0
      · subst h0
        gi_wp2_with fail
        go_roundw
        case rel => exact ⟨2, by omega, rfl, fun _ => by first | exact hra | trivial, fun _ => by first | rfl | trivial, I3, HR3⟩
        case measure => first | (simp [intOf]; done) | (simp [intOf]; omega)
      · have HN : r = rb := hr.out.symm.trans ((mmE_b (by rw [HRA.out]; exact hra) (by rw [HRB.out]; exact h0)).trans HRB.out)
        have x2 := I3.out.x2
        have d0 := x2.c0
        have d1 := x2.c1
        have f0 := x2.free 0
        have f1 := x2.free 1
        have F9 := fr_put2 w2 (w.heap.size + 2) (.slice none 0 0) (.slice none 0 0)
        have y2 := x2.set2 (.slice none 0 0) (.slice none 0 0)
        have F8 := I3.out.fr.comp F9 (R := fun k => k < w.heap.size) fun k _ hk => ⟨hk, by omega⟩
        gi_wp2_with fail
        exact ⟨_, results_mm rfl rfl y2, ⟨none, 0, 0, none, 0, 0, by rw [HN], fun _ => ⟨rfl, rfl⟩, fun h => absurd (HN.symm.trans h) h0, F8⟩⟩
    · have hra := hk0 (by omega)
      have hrb := hk1 (by omega)
      clear c0 c1 c2 c3 hk0 hk1 hk HROW ltr
      have HM1 := Lib.hid (show mayT sha ea = 0 by rw [HRA.out]; exact hra)
      have HM2 := Lib.hid (show mayT shb eb = 0 by rw [HRB.out]; exact hrb)
      have ID := Lib.hid (I1.out.keep (Fr.refl (fun _ => True) wr).drew (fun _ _ => trivial))
      have ltd : w.heap.size + 3 ≤ wr.drew.heap.size := I1.out.lt
      clear I1 lt
      by_cases h2 : sha.length = 2 ∧ shb.length = 2 ∧ sha.getD 1 0 = shb.getD 0 0
      case neg =>
        by_cases h3 : sha.length = 2
        · by_cases h4 : shb.length = 2
          · have hne : sha.getD 1 0 ≠ shb.getD 0 0 := fun h => h2 ⟨h3, h4, h⟩
            obtain ⟨ad, hA, g1, _⟩ := Kd.int_cell ID.out.a1 (i := 1) (by omega)
            obtain ⟨ae, hB, g2, _⟩ := Kd.int_cell ID.out.b1 (i := 0) (by omega)
            rw [getI_at (by omega), getI_at (by omega)] at hne
            rw [addr_zero] at g2
            generalize sha[1] = x1 at g1 hne
            generalize shb[0] = y0 at g2 hne
            replace g1 : wr.drew.cell? ⟨ad.block, ad.off + 1, none⟩ = some (.int .i64 x1) := g1
            subst hA
            subst hB
            gi_wp2_with fail
            refine wpIn_wide.2 (wp_calm ?_)
            refine wpTill.begin (fun _ => True) 20 (by kernel_rfl) ?_
            change wpTill _ _ _ _ _ _ 21 _ _ _
            refine wpTill.free (jj := 20) (m := 0) [(0, Fact.eq (.pointer (some ⟨w.heap.size, 0, none⟩))),
            (1, Fact.eq (.slice (some ad) sha.length c)),
            (2, Fact.eq (.int .i64 sha.length)),
            (3, Fact.eq (.bool false)),
            (4, Fact.eq (.bool false)),
            (5, Fact.eq (.pointer (some ⟨w.heap.size + 1, 0, none⟩))),
            (6, Fact.eq (.slice (some ae) shb.length d)),
            (7, Fact.eq (.int .i64 shb.length)),
            (8, Fact.eq (.bool false)),
            (9, Fact.eq (.bool false)),
            (10, Fact.eq (.bool false)),
            (11, Fact.eq (.pointer (some ⟨w.heap.size, 0, none⟩))),
            (12, Fact.eq (.slice (some ad) sha.length c)),
            (13, Fact.eq (.pointer (some ⟨ad.block, ad.off + 1, none⟩))),
            (14, Fact.eq (.int .i64 x1)),
            (15, Fact.eq (.pointer (some ⟨w.heap.size + 1, 0, none⟩))),
            (16, Fact.eq (.slice (some ae) shb.length d)),
            (17, Fact.eq (.pointer (some ae))),
            (18, Fact.eq (.int .i64 y0)),
            (19, Fact.eq (.bool true)),
            (20, Fact.eq (.bool true))] [] [0, 1, 3, 7, 15, 31, 63, 127, 255, 511, 1023, 2047, 4095, 8191, 16383, 2047, 34815, 100351, 231423, 524287, 1048575] [] ?_ (by kernel_rfl) (by kernel_rfl) (by kernel_rfl) [(0, some 33), (1, some 34), (2, some 35), (3, some 36), (4, some 37), (5, some 38), (6, some 39), (7, some 40), (8, some 41), (9, some 42), (10, some 43), (11, some 44), (12, some 45), (13, some 46), (14, some 47), (15, some 48), (16, some 49), (17, some 50), (18, some 51), (19, some 52), (20, some 53)] (by kernel_rfl) ?hA ?hQ (fun _ _ => trivial) (by kernel_rfl) ?steps ?looses ?cont
            case hQ => exact fun c _ _ _ _ h => absurd rfl (h.1 c)
            case hA =>
              intro vs
              simp only [fillD, List.foldl_cons, List.foldl_nil, Act.put, List.setIfInBounds_toArray, List.set_cons_zero, List.set_cons_succ]
              exact rfl
            case steps =>
              refine ⟨?_, ?_, ?_, ?_, ?_, ?_, ?_, ?_, ?_, ?_, ?_, ?_, ?_, ?_, ?_, ?_, ?_, ?_, ?_, ?_, ?_, trivial⟩
              · rintro vs u ⟨hV0, hV1, hV2, hV3, hV4, hV5, hV6, hV7, hV8, hV9, hV10, hV11, hV12, hV13, hV14, hV15, hV16, hV17, hV18, hV19, hV20, -⟩ G
                exact stepAt.pure (v := .pointer (some ⟨w.heap.size, 0, none⟩)) rfl rfl (by go_simp) rfl
              · rintro vs u ⟨hV0, hV1, hV2, hV3, hV4, hV5, hV6, hV7, hV8, hV9, hV10, hV11, hV12, hV13, hV14, hV15, hV16, hV17, hV18, hV19, hV20, -⟩ G
                have o0 := (ID.out.x0.fr G (by omega)).c0
                have eV0 : vs 0 = .pointer (some ⟨w.heap.size, 0, none⟩) := hV0 rfl
                exact stepAt.pure (v := .slice (some ad) sha.length c) rfl rfl (by simp only [eV0]; go_simp) rfl
              · rintro vs u ⟨hV0, hV1, hV2, hV3, hV4, hV5, hV6, hV7, hV8, hV9, hV10, hV11, hV12, hV13, hV14, hV15, hV16, hV17, hV18, hV19, hV20, -⟩ G
                have eV1 : vs 1 = .slice (some ad) sha.length c := hV1 rfl
                exact stepAt.pure (v := .int .i64 sha.length) rfl rfl (by simp only [eV1]; go_simp) rfl
              · rintro vs u ⟨hV0, hV1, hV2, hV3, hV4, hV5, hV6, hV7, hV8, hV9, hV10, hV11, hV12, hV13, hV14, hV15, hV16, hV17, hV18, hV19, hV20, -⟩ G
                have eV2 : vs 2 = .int .i64 sha.length := hV2 rfl
                exact stepAt.pure (v := .bool false) rfl rfl (by simp only [eV2]; go_simp <;> omega) rfl
              · rintro vs u ⟨hV0, hV1, hV2, hV3, hV4, hV5, hV6, hV7, hV8, hV9, hV10, hV11, hV12, hV13, hV14, hV15, hV16, hV17, hV18, hV19, hV20, -⟩ G
                have eV3 : vs 3 = .bool false := hV3 rfl
                exact stepAt.pure (v := .bool false) rfl rfl (by simp only [eV3]; go_simp) rfl
              · rintro vs u ⟨hV0, hV1, hV2, hV3, hV4, hV5, hV6, hV7, hV8, hV9, hV10, hV11, hV12, hV13, hV14, hV15, hV16, hV17, hV18, hV19, hV20, -⟩ G
                exact stepAt.pure (v := .pointer (some ⟨w.heap.size + 1, 0, none⟩)) rfl (wanted_by (g := 4) (b := false) (t := 37) rfl (by kernel_rfl) (congrArg some (show vs 4 = _ from hV4 rfl))) (by go_simp) rfl
              · rintro vs u ⟨hV0, hV1, hV2, hV3, hV4, hV5, hV6, hV7, hV8, hV9, hV10, hV11, hV12, hV13, hV14, hV15, hV16, hV17, hV18, hV19, hV20, -⟩ G
                have o0 := (ID.out.x1.fr G (by omega)).c0
                have eV5 : vs 5 = .pointer (some ⟨w.heap.size + 1, 0, none⟩) := hV5 rfl
                exact stepAt.pure (v := .slice (some ae) shb.length d) rfl (wanted_by (g := 4) (b := false) (t := 37) rfl (by kernel_rfl) (congrArg some (show vs 4 = _ from hV4 rfl))) (by simp only [eV5]; go_simp) rfl
              · rintro vs u ⟨hV0, hV1, hV2, hV3, hV4, hV5, hV6, hV7, hV8, hV9, hV10, hV11, hV12, hV13, hV14, hV15, hV16, hV17, hV18, hV19, hV20, -⟩ G
                have eV6 : vs 6 = .slice (some ae) shb.length d := hV6 rfl
                exact stepAt.pure (v := .int .i64 shb.length) rfl (wanted_by (g := 4) (b := false) (t := 37) rfl (by kernel_rfl) (congrArg some (show vs 4 = _ from hV4 rfl))) (by simp only [eV6]; go_simp) rfl
              · rintro vs u ⟨hV0, hV1, hV2, hV3, hV4, hV5, hV6, hV7, hV8, hV9, hV10, hV11, hV12, hV13, hV14, hV15, hV16, hV17, hV18, hV19, hV20, -⟩ G
                have eV7 : vs 7 = .int .i64 shb.length := hV7 rfl
                exact stepAt.pure (v := .bool false) rfl (wanted_by (g := 4) (b := false) (t := 37) rfl (by kernel_rfl) (congrArg some (show vs 4 = _ from hV4 rfl))) (by simp only [eV7]; go_simp <;> omega) rfl
              · rintro vs u ⟨hV0, hV1, hV2, hV3, hV4, hV5, hV6, hV7, hV8, hV9, hV10, hV11, hV12, hV13, hV14, hV15, hV16, hV17, hV18, hV19, hV20, -⟩ G
                have eV4 : vs 4 = .bool false := hV4 rfl
                have eV8 : vs 8 = .bool false := hV8 rfl
                exact stepAt.pure (v := .bool false) rfl rfl (by simp only [eV4, eV8]; go_simp) rfl
              · rintro vs u ⟨hV0, hV1, hV2, hV3, hV4, hV5, hV6, hV7, hV8, hV9, hV10, hV11, hV12, hV13, hV14, hV15, hV16, hV17, hV18, hV19, hV20, -⟩ G
                have eV9 : vs 9 = .bool false := hV9 rfl
                exact stepAt.pure (v := .bool false) rfl rfl (by simp only [eV9]; go_simp) rfl
              · rintro vs u ⟨hV0, hV1, hV2, hV3, hV4, hV5, hV6, hV7, hV8, hV9, hV10, hV11, hV12, hV13, hV14, hV15, hV16, hV17, hV18, hV19, hV20, -⟩ G
                exact stepAt.pure (v := .pointer (some ⟨w.heap.size, 0, none⟩)) rfl (wanted_by (g := 10) (b := false) (t := 43) rfl (by kernel_rfl) (congrArg some (show vs 10 = _ from hV10 rfl))) (by go_simp) rfl
              · rintro vs u ⟨hV0, hV1, hV2, hV3, hV4, hV5, hV6, hV7, hV8, hV9, hV10, hV11, hV12, hV13, hV14, hV15, hV16, hV17, hV18, hV19, hV20, -⟩ G
                have o0 := (ID.out.x0.fr G (by omega)).c0
                have eV11 : vs 11 = .pointer (some ⟨w.heap.size, 0, none⟩) := hV11 rfl
                exact stepAt.pure (v := .slice (some ad) sha.length c) rfl (wanted_by (g := 10) (b := false) (t := 43) rfl (by kernel_rfl) (congrArg some (show vs 10 = _ from hV10 rfl))) (by simp only [eV11]; go_simp) rfl
              · rintro vs u ⟨hV0, hV1, hV2, hV3, hV4, hV5, hV6, hV7, hV8, hV9, hV10, hV11, hV12, hV13, hV14, hV15, hV16, hV17, hV18, hV19, hV20, -⟩ G
                have eV12 : vs 12 = .slice (some ad) sha.length c := hV12 rfl
                exact stepAt.pure (v := .pointer (some ⟨ad.block, ad.off + 1, none⟩)) rfl (wanted_by (g := 10) (b := false) (t := 43) rfl (by kernel_rfl) (congrArg some (show vs 10 = _ from hV10 rfl))) (by simp only [eV12]; go_simp) rfl
              · rintro vs u ⟨hV0, hV1, hV2, hV3, hV4, hV5, hV6, hV7, hV8, hV9, hV10, hV11, hV12, hV13, hV14, hV15, hV16, hV17, hV18, hV19, hV20, -⟩ G
                have o0 := G.cell g1 (World.block_lt_of_cell? _ _ g1)
                have eV13 : vs 13 = .pointer (some ⟨ad.block, ad.off + 1, none⟩) := hV13 rfl
                exact stepAt.pure (v := .int .i64 x1) rfl (wanted_by (g := 10) (b := false) (t := 43) rfl (by kernel_rfl) (congrArg some (show vs 10 = _ from hV10 rfl))) (by simp only [eV13]; go_simp) rfl
              · rintro vs u ⟨hV0, hV1, hV2, hV3, hV4, hV5, hV6, hV7, hV8, hV9, hV10, hV11, hV12, hV13, hV14, hV15, hV16, hV17, hV18, hV19, hV20, -⟩ G
                exact stepAt.pure (v := .pointer (some ⟨w.heap.size + 1, 0, none⟩)) rfl (wanted_by (g := 10) (b := false) (t := 43) rfl (by kernel_rfl) (congrArg some (show vs 10 = _ from hV10 rfl))) (by go_simp) rfl
              · rintro vs u ⟨hV0, hV1, hV2, hV3, hV4, hV5, hV6, hV7, hV8, hV9, hV10, hV11, hV12, hV13, hV14, hV15, hV16, hV17, hV18, hV19, hV20, -⟩ G
                have o0 := (ID.out.x1.fr G (by omega)).c0
                have eV15 : vs 15 = .pointer (some ⟨w.heap.size + 1, 0, none⟩) := hV15 rfl
                exact stepAt.pure (v := .slice (some ae) shb.length d) rfl (wanted_by (g := 10) (b := false) (t := 43) rfl (by kernel_rfl) (congrArg some (show vs 10 = _ from hV10 rfl))) (by simp only [eV15]; go_simp) rfl
              · rintro vs u ⟨hV0, hV1, hV2, hV3, hV4, hV5, hV6, hV7, hV8, hV9, hV10, hV11, hV12, hV13, hV14, hV15, hV16, hV17, hV18, hV19, hV20, -⟩ G
                have eV16 : vs 16 = .slice (some ae) shb.length d := hV16 rfl
                exact stepAt.pure (v := .pointer (some ae)) rfl (wanted_by (g := 10) (b := false) (t := 43) rfl (by kernel_rfl) (congrArg some (show vs 10 = _ from hV10 rfl))) (by simp only [eV16]; go_simp) rfl
              · rintro vs u ⟨hV0, hV1, hV2, hV3, hV4, hV5, hV6, hV7, hV8, hV9, hV10, hV11, hV12, hV13, hV14, hV15, hV16, hV17, hV18, hV19, hV20, -⟩ G
                have o0 := G.cell g2 (World.block_lt_of_cell? _ _ g2)
                have eV17 : vs 17 = .pointer (some ae) := hV17 rfl
                exact stepAt.pure (v := .int .i64 y0) rfl (wanted_by (g := 10) (b := false) (t := 43) rfl (by kernel_rfl) (congrArg some (show vs 10 = _ from hV10 rfl))) (by simp only [eV17]; go_simp) rfl
              · rintro vs u ⟨hV0, hV1, hV2, hV3, hV4, hV5, hV6, hV7, hV8, hV9, hV10, hV11, hV12, hV13, hV14, hV15, hV16, hV17, hV18, hV19, hV20, -⟩ G
                have eV14 : vs 14 = .int .i64 x1 := hV14 rfl
                have eV18 : vs 18 = .int .i64 y0 := hV18 rfl
                exact stepAt.pure (v := .bool true) rfl (wanted_by (g := 10) (b := false) (t := 43) rfl (by kernel_rfl) (congrArg some (show vs 10 = _ from hV10 rfl))) (by simp only [eV14, eV18]; go_simp <;> omega) rfl
              · rintro vs u ⟨hV0, hV1, hV2, hV3, hV4, hV5, hV6, hV7, hV8, hV9, hV10, hV11, hV12, hV13, hV14, hV15, hV16, hV17, hV18, hV19, hV20, -⟩ G
                have eV10 : vs 10 = .bool false := hV10 rfl
                have eV19 : vs 19 = .bool true := hV19 rfl
                exact stepAt.pure (v := .bool true) rfl rfl (by simp only [eV10, eV19]; go_simp) rfl
            case looses =>
              exact trivial
            case cont =>
              rintro vs u ⟨hV0, hV1, hV2, hV3, hV4, hV5, hV6, hV7, hV8, hV9, hV10, hV11, hV12, hV13, hV14, hV15, hV16, hV17, hV18, hV19, hV20, -⟩ G
              have eV0 : vs 0 = .pointer (some ⟨w.heap.size, 0, none⟩) := hV0
              have eV1 : vs 1 = .slice (some ad) sha.length c := hV1
              have eV2 : vs 2 = .int .i64 sha.length := hV2
              have eV3 : vs 3 = .bool false := hV3
              have eV4 : vs 4 = .bool false := hV4
              have eV5 : vs 5 = .pointer (some ⟨w.heap.size + 1, 0, none⟩) := hV5
              have eV6 : vs 6 = .slice (some ae) shb.length d := hV6
              have eV7 : vs 7 = .int .i64 shb.length := hV7
              have eV8 : vs 8 = .bool false := hV8
              have eV9 : vs 9 = .bool false := hV9
              have eV10 : vs 10 = .bool false := hV10
              have eV11 : vs 11 = .pointer (some ⟨w.heap.size, 0, none⟩) := hV11
              have eV12 : vs 12 = .slice (some ad) sha.length c := hV12
              have eV13 : vs 13 = .pointer (some ⟨ad.block, ad.off + 1, none⟩) := hV13
              have eV14 : vs 14 = .int .i64 x1 := hV14
              have eV15 : vs 15 = .pointer (some ⟨w.heap.size + 1, 0, none⟩) := hV15
              have eV16 : vs 16 = .slice (some ae) shb.length d := hV16
              have eV17 : vs 17 = .pointer (some ae) := hV17
              have eV18 : vs 18 = .int .i64 y0 := hV18
              have eV19 : vs 19 = .bool true := hV19
              have eV20 : vs 20 = .bool true := hV20
              simp only [eV0, eV1, eV2, eV3, eV4, eV5, eV6, eV7, eV8, eV9, eV10, eV11, eV12, eV13, eV14, eV15, eV16, eV17, eV18, eV19, eV20]
              clear eV0 eV1 eV2 eV3 eV4 eV5 eV6 eV7 eV8 eV9 eV10 eV11 eV12 eV13 eV14 eV15 eV16 eV17 eV18 eV19 eV20 hV0 hV1 hV2 hV3 hV4 hV5 hV6 hV7 hV8 hV9 hV10 hV11 hV12 hV13 hV14 hV15 hV16 hV17 hV18 hV19 hV20
              refine wpTill.done (by kernel_rfl) ?_
              refine ⟨fun _ h => (nomatch h), ?_⟩
              have HN : r = 13 := hr.out.symm.trans (mmE_13 HM1.out HM2.out h2)
              have h0 : (13 : Int) ≠ 0 := by decide
              have I3 := Lib.hid (ID.out.keep G (fun k hk => by omega))
              have x2 := I3.out.x2
              have d0 := x2.c0
              have d1 := x2.c1
              have f0 := x2.free 0
              have f1 := x2.free 1
              have F9 := fr_put2 u (w.heap.size + 2) (.slice none 0 0) (.slice none 0 0)
              have y2 := x2.set2 (.slice none 0 0) (.slice none 0 0)
              have F8 := I3.out.fr.comp F9 (R := fun k => k < w.heap.size) fun k _ hk => ⟨hk, by omega⟩
              gi_wp2_with fail
              exact ⟨_, results_mm rfl rfl y2, ⟨none, 0, 0, none, 0, 0, by rw [HN], fun _ => ⟨rfl, rfl⟩, fun h => absurd (HN.symm.trans h) h0, F8⟩⟩
          · gi_wp2_with fail
            refine wpIn_wide.2 (wp_calm ?_)
            refine wpTill.begin (fun _ => True) 20 (by kernel_rfl) ?_
            change wpTill _ _ _ _ _ _ 21 _ _ _
            refine wpTill.free (jj := 20) (m := 0) [(0, Fact.eq (.pointer (some ⟨w.heap.size, 0, none⟩))),
            (1, Fact.eq (.slice A sha.length c)),
            (2, Fact.eq (.int .i64 sha.length)),
            (3, Fact.eq (.bool false)),
            (4, Fact.eq (.bool false)),
            (5, Fact.eq (.pointer (some ⟨w.heap.size + 1, 0, none⟩))),
            (6, Fact.eq (.slice B shb.length d)),
            (7, Fact.eq (.int .i64 shb.length)),
            (8, Fact.eq (.bool true)),
            (9, Fact.eq (.bool true)),
            (10, Fact.eq (.bool true)),
            (11, Fact.eq undef),
            (12, Fact.eq undef),
            (13, Fact.eq undef),
            (14, Fact.eq undef),
            (15, Fact.eq undef),
            (16, Fact.eq undef),
            (17, Fact.eq undef),
            (18, Fact.eq undef),
            (19, Fact.eq undef),
            (20, Fact.eq (.bool true))] [] [0, 1, 3, 7, 15, 31, 63, 127, 255, 511, 1023, 2047, 4095, 8191, 16383, 2047, 34815, 100351, 231423, 524287, 1048575] [] ?_ (by kernel_rfl) (by kernel_rfl) (by kernel_rfl) [(0, some 33), (1, some 34), (2, some 35), (3, some 36), (4, some 37), (5, some 38), (6, some 39), (7, some 40), (8, some 41), (9, some 42), (10, some 43), (11, some 44), (12, some 45), (13, some 46), (14, some 47), (15, some 48), (16, some 49), (17, some 50), (18, some 51), (19, some 52), (20, some 53)] (by kernel_rfl) ?hA ?hQ (fun _ _ => trivial) (by kernel_rfl) ?steps ?looses ?cont
            case hQ => exact fun c _ _ _ _ h => absurd rfl (h.1 c)
            case hA =>
              intro vs
              simp only [fillD, List.foldl_cons, List.foldl_nil, Act.put, List.setIfInBounds_toArray, List.set_cons_zero, List.set_cons_succ]
              exact rfl
            case steps =>
              refine ⟨?_, ?_, ?_, ?_, ?_, ?_, ?_, ?_, ?_, ?_, ?_, ?_, ?_, ?_, ?_, ?_, ?_, ?_, ?_, ?_, ?_, trivial⟩
              · rintro vs u ⟨hV0, hV1, hV2, hV3, hV4, hV5, hV6, hV7, hV8, hV9, hV10, hV11, hV12, hV13, hV14, hV15, hV16, hV17, hV18, hV19, hV20, -⟩ G
                exact stepAt.pure (v := .pointer (some ⟨w.heap.size, 0, none⟩)) rfl rfl (by go_simp) rfl
              · rintro vs u ⟨hV0, hV1, hV2, hV3, hV4, hV5, hV6, hV7, hV8, hV9, hV10, hV11, hV12, hV13, hV14, hV15, hV16, hV17, hV18, hV19, hV20, -⟩ G
                have o0 := (ID.out.x0.fr G (by omega)).c0
                have eV0 : vs 0 = .pointer (some ⟨w.heap.size, 0, none⟩) := hV0 rfl
                exact stepAt.pure (v := .slice A sha.length c) rfl rfl (by simp only [eV0]; go_simp) rfl
              · rintro vs u ⟨hV0, hV1, hV2, hV3, hV4, hV5, hV6, hV7, hV8, hV9, hV10, hV11, hV12, hV13, hV14, hV15, hV16, hV17, hV18, hV19, hV20, -⟩ G
                have eV1 : vs 1 = .slice A sha.length c := hV1 rfl
                exact stepAt.pure (v := .int .i64 sha.length) rfl rfl (by simp only [eV1]; go_simp) rfl
              · rintro vs u ⟨hV0, hV1, hV2, hV3, hV4, hV5, hV6, hV7, hV8, hV9, hV10, hV11, hV12, hV13, hV14, hV15, hV16, hV17, hV18, hV19, hV20, -⟩ G
                have eV2 : vs 2 = .int .i64 sha.length := hV2 rfl
                exact stepAt.pure (v := .bool false) rfl rfl (by simp only [eV2]; go_simp <;> omega) rfl
              · rintro vs u ⟨hV0, hV1, hV2, hV3, hV4, hV5, hV6, hV7, hV8, hV9, hV10, hV11, hV12, hV13, hV14, hV15, hV16, hV17, hV18, hV19, hV20, -⟩ G
                have eV3 : vs 3 = .bool false := hV3 rfl
                exact stepAt.pure (v := .bool false) rfl rfl (by simp only [eV3]; go_simp) rfl
              · rintro vs u ⟨hV0, hV1, hV2, hV3, hV4, hV5, hV6, hV7, hV8, hV9, hV10, hV11, hV12, hV13, hV14, hV15, hV16, hV17, hV18, hV19, hV20, -⟩ G
                exact stepAt.pure (v := .pointer (some ⟨w.heap.size + 1, 0, none⟩)) rfl (wanted_by (g := 4) (b := false) (t := 37) rfl (by kernel_rfl) (congrArg some (show vs 4 = _ from hV4 rfl))) (by go_simp) rfl
              · rintro vs u ⟨hV0, hV1, hV2, hV3, hV4, hV5, hV6, hV7, hV8, hV9, hV10, hV11, hV12, hV13, hV14, hV15, hV16, hV17, hV18, hV19, hV20, -⟩ G
                have o0 := (ID.out.x1.fr G (by omega)).c0
                have eV5 : vs 5 = .pointer (some ⟨w.heap.size + 1, 0, none⟩) := hV5 rfl
                exact stepAt.pure (v := .slice B shb.length d) rfl (wanted_by (g := 4) (b := false) (t := 37) rfl (by kernel_rfl) (congrArg some (show vs 4 = _ from hV4 rfl))) (by simp only [eV5]; go_simp) rfl
              · rintro vs u ⟨hV0, hV1, hV2, hV3, hV4, hV5, hV6, hV7, hV8, hV9, hV10, hV11, hV12, hV13, hV14, hV15, hV16, hV17, hV18, hV19, hV20, -⟩ G
                have eV6 : vs 6 = .slice B shb.length d := hV6 rfl
                exact stepAt.pure (v := .int .i64 shb.length) rfl (wanted_by (g := 4) (b := false) (t := 37) rfl (by kernel_rfl) (congrArg some (show vs 4 = _ from hV4 rfl))) (by simp only [eV6]; go_simp) rfl
              · rintro vs u ⟨hV0, hV1, hV2, hV3, hV4, hV5, hV6, hV7, hV8, hV9, hV10, hV11, hV12, hV13, hV14, hV15, hV16, hV17, hV18, hV19, hV20, -⟩ G
                have eV7 : vs 7 = .int .i64 shb.length := hV7 rfl
                exact stepAt.pure (v := .bool true) rfl (wanted_by (g := 4) (b := false) (t := 37) rfl (by kernel_rfl) (congrArg some (show vs 4 = _ from hV4 rfl))) (by simp only [eV7]; go_simp <;> omega) rfl
              · rintro vs u ⟨hV0, hV1, hV2, hV3, hV4, hV5, hV6, hV7, hV8, hV9, hV10, hV11, hV12, hV13, hV14, hV15, hV16, hV17, hV18, hV19, hV20, -⟩ G
                have eV4 : vs 4 = .bool false := hV4 rfl
                have eV8 : vs 8 = .bool true := hV8 rfl
                exact stepAt.pure (v := .bool true) rfl rfl (by simp only [eV4, eV8]; go_simp) rfl
              · rintro vs u ⟨hV0, hV1, hV2, hV3, hV4, hV5, hV6, hV7, hV8, hV9, hV10, hV11, hV12, hV13, hV14, hV15, hV16, hV17, hV18, hV19, hV20, -⟩ G
                have eV9 : vs 9 = .bool true := hV9 rfl
                exact stepAt.pure (v := .bool true) rfl rfl (by simp only [eV9]; go_simp) rfl
              · rintro vs u ⟨hV0, hV1, hV2, hV3, hV4, hV5, hV6, hV7, hV8, hV9, hV10, hV11, hV12, hV13, hV14, hV15, hV16, hV17, hV18, hV19, hV20, -⟩ G
                exact stepAt.unwanted rfl (wanted_not (g := 10) (b := false) (t := 43) rfl (by kernel_rfl) (congrArg some (show vs 10 = _ from hV10 rfl))) rfl
              · rintro vs u ⟨hV0, hV1, hV2, hV3, hV4, hV5, hV6, hV7, hV8, hV9, hV10, hV11, hV12, hV13, hV14, hV15, hV16, hV17, hV18, hV19, hV20, -⟩ G
                exact stepAt.unwanted rfl (wanted_not (g := 10) (b := false) (t := 43) rfl (by kernel_rfl) (congrArg some (show vs 10 = _ from hV10 rfl))) rfl
              · rintro vs u ⟨hV0, hV1, hV2, hV3, hV4, hV5, hV6, hV7, hV8, hV9, hV10, hV11, hV12, hV13, hV14, hV15, hV16, hV17, hV18, hV19, hV20, -⟩ G
                exact stepAt.unwanted rfl (wanted_not (g := 10) (b := false) (t := 43) rfl (by kernel_rfl) (congrArg some (show vs 10 = _ from hV10 rfl))) rfl
              · rintro vs u ⟨hV0, hV1, hV2, hV3, hV4, hV5, hV6, hV7, hV8, hV9, hV10, hV11, hV12, hV13, hV14, hV15, hV16, hV17, hV18, hV19, hV20, -⟩ G
                exact stepAt.unwanted rfl (wanted_not (g := 10) (b := false) (t := 43) rfl (by kernel_rfl) (congrArg some (show vs 10 = _ from hV10 rfl))) rfl
              · rintro vs u ⟨hV0, hV1, hV2, hV3, hV4, hV5, hV6, hV7, hV8, hV9, hV10, hV11, hV12, hV13, hV14, hV15, hV16, hV17, hV18, hV19, hV20, -⟩ G
                exact stepAt.unwanted rfl (wanted_not (g := 10) (b := false) (t := 43) rfl (by kernel_rfl) (congrArg some (show vs 10 = _ from hV10 rfl))) rfl
              · rintro vs u ⟨hV0, hV1, hV2, hV3, hV4, hV5, hV6, hV7, hV8, hV9, hV10, hV11, hV12, hV13, hV14, hV15, hV16, hV17, hV18, hV19, hV20, -⟩ G
                exact stepAt.unwanted rfl (wanted_not (g := 10) (b := false) (t := 43) rfl (by kernel_rfl) (congrArg some (show vs 10 = _ from hV10 rfl))) rfl
              · rintro vs u ⟨hV0, hV1, hV2, hV3, hV4, hV5, hV6, hV7, hV8, hV9, hV10, hV11, hV12, hV13, hV14, hV15, hV16, hV17, hV18, hV19, hV20, -⟩ G
                exact stepAt.unwanted rfl (wanted_not (g := 10) (b := false) (t := 43) rfl (by kernel_rfl) (congrArg some (show vs 10 = _ from hV10 rfl))) rfl
              · rintro vs u ⟨hV0, hV1, hV2, hV3, hV4, hV5, hV6, hV7, hV8, hV9, hV10, hV11, hV12, hV13, hV14, hV15, hV16, hV17, hV18, hV19, hV20, -⟩ G
                exact stepAt.unwanted rfl (wanted_not (g := 10) (b := false) (t := 43) rfl (by kernel_rfl) (congrArg some (show vs 10 = _ from hV10 rfl))) rfl
              · rintro vs u ⟨hV0, hV1, hV2, hV3, hV4, hV5, hV6, hV7, hV8, hV9, hV10, hV11, hV12, hV13, hV14, hV15, hV16, hV17, hV18, hV19, hV20, -⟩ G
                exact stepAt.unwanted rfl (wanted_not (g := 10) (b := false) (t := 43) rfl (by kernel_rfl) (congrArg some (show vs 10 = _ from hV10 rfl))) rfl
              · rintro vs u ⟨hV0, hV1, hV2, hV3, hV4, hV5, hV6, hV7, hV8, hV9, hV10, hV11, hV12, hV13, hV14, hV15, hV16, hV17, hV18, hV19, hV20, -⟩ G
                have eV10 : vs 10 = .bool true := hV10 rfl
                have eV19 : vs 19 = undef := hV19 rfl
                exact stepAt.pure (v := .bool true) rfl rfl (by simp only [eV10, eV19]; go_simp) rfl
            case looses =>
              exact trivial
            case cont =>
              rintro vs u ⟨hV0, hV1, hV2, hV3, hV4, hV5, hV6, hV7, hV8, hV9, hV10, hV11, hV12, hV13, hV14, hV15, hV16, hV17, hV18, hV19, hV20, -⟩ G
              have eV0 : vs 0 = .pointer (some ⟨w.heap.size, 0, none⟩) := hV0
              have eV1 : vs 1 = .slice A sha.length c := hV1
              have eV2 : vs 2 = .int .i64 sha.length := hV2
              have eV3 : vs 3 = .bool false := hV3
              have eV4 : vs 4 = .bool false := hV4
              have eV5 : vs 5 = .pointer (some ⟨w.heap.size + 1, 0, none⟩) := hV5
              have eV6 : vs 6 = .slice B shb.length d := hV6
              have eV7 : vs 7 = .int .i64 shb.length := hV7
              have eV8 : vs 8 = .bool true := hV8
              have eV9 : vs 9 = .bool true := hV9
              have eV10 : vs 10 = .bool true := hV10
              have eV11 : vs 11 = undef := hV11
              have eV12 : vs 12 = undef := hV12
              have eV13 : vs 13 = undef := hV13
              have eV14 : vs 14 = undef := hV14
              have eV15 : vs 15 = undef := hV15
              have eV16 : vs 16 = undef := hV16
              have eV17 : vs 17 = undef := hV17
              have eV18 : vs 18 = undef := hV18
              have eV19 : vs 19 = undef := hV19
              have eV20 : vs 20 = .bool true := hV20
              simp only [eV0, eV1, eV2, eV3, eV4, eV5, eV6, eV7, eV8, eV9, eV10, eV11, eV12, eV13, eV14, eV15, eV16, eV17, eV18, eV19, eV20]
              clear eV0 eV1 eV2 eV3 eV4 eV5 eV6 eV7 eV8 eV9 eV10 eV11 eV12 eV13 eV14 eV15 eV16 eV17 eV18 eV19 eV20 hV0 hV1 hV2 hV3 hV4 hV5 hV6 hV7 hV8 hV9 hV10 hV11 hV12 hV13 hV14 hV15 hV16 hV17 hV18 hV19 hV20
              refine wpTill.done (by kernel_rfl) ?_
              refine ⟨fun _ h => (nomatch h), ?_⟩
              have HN : r = 13 := hr.out.symm.trans (mmE_13 HM1.out HM2.out h2)
              have h0 : (13 : Int) ≠ 0 := by decide
              have I3 := Lib.hid (ID.out.keep G (fun k hk => by omega))
              have x2 := I3.out.x2
              have d0 := x2.c0
              have d1 := x2.c1
              have f0 := x2.free 0
              have f1 := x2.free 1
              have F9 := fr_put2 u (w.heap.size + 2) (.slice none 0 0) (.slice none 0 0)
              have y2 := x2.set2 (.slice none 0 0) (.slice none 0 0)
              have F8 := I3.out.fr.comp F9 (R := fun k => k < w.heap.size) fun k _ hk => ⟨hk, by omega⟩
              gi_wp2_with fail
              exact ⟨_, results_mm rfl rfl y2, ⟨none, 0, 0, none, 0, 0, by rw [HN], fun _ => ⟨rfl, rfl⟩, fun h => absurd (HN.symm.trans h) h0, F8⟩⟩
        · gi_wp2_with fail
          refine wpIn_wide.2 (wp_calm ?_)
          refine wpTill.begin (fun _ => True) 20 (by kernel_rfl) ?_
          change wpTill _ _ _ _ _ _ 21 _ _ _
          refine wpTill.free (jj := 20) (m := 0) [(0, Fact.eq (.pointer (some ⟨w.heap.size, 0, none⟩))),
            (1, Fact.eq (.slice A sha.length c)),
            (2, Fact.eq (.int .i64 sha.length)),
            (3, Fact.eq (.bool true)),
            (4, Fact.eq (.bool true)),
            (5, Fact.eq undef),
            (6, Fact.eq undef),
            (7, Fact.eq undef),
            (8, Fact.eq undef),
            (9, Fact.eq (.bool true)),
            (10, Fact.eq (.bool true)),
            (11, Fact.eq undef),
            (12, Fact.eq undef),
            (13, Fact.eq undef),
            (14, Fact.eq undef),
            (15, Fact.eq undef),
            (16, Fact.eq undef),
            (17, Fact.eq undef),
            (18, Fact.eq undef),
            (19, Fact.eq undef),
            (20, Fact.eq (.bool true))] [] [0, 1, 3, 7, 15, 31, 63, 127, 255, 511, 1023, 2047, 4095, 8191, 16383, 2047, 34815, 100351, 231423, 524287, 1048575] [] ?_ (by kernel_rfl) (by kernel_rfl) (by kernel_rfl) [(0, some 33), (1, some 34), (2, some 35), (3, some 36), (4, some 37), (5, some 38), (6, some 39), (7, some 40), (8, some 41), (9, some 42), (10, some 43), (11, some 44), (12, some 45), (13, some 46), (14, some 47), (15, some 48), (16, some 49), (17, some 50), (18, some 51), (19, some 52), (20, some 53)] (by kernel_rfl) ?hA ?hQ (fun _ _ => trivial) (by kernel_rfl) ?steps ?looses ?cont
          case hQ => exact fun c _ _ _ _ h => absurd rfl (h.1 c)
          case hA =>
            intro vs
            simp only [fillD, List.foldl_cons, List.foldl_nil, Act.put, List.setIfInBounds_toArray, List.set_cons_zero, List.set_cons_succ]
            exact rfl
          case steps =>
            refine ⟨?_, ?_, ?_, ?_, ?_, ?_, ?_, ?_, ?_, ?_, ?_, ?_, ?_, ?_, ?_, ?_, ?_, ?_, ?_, ?_, ?_, trivial⟩
            · rintro vs u ⟨hV0, hV1, hV2, hV3, hV4, hV5, hV6, hV7, hV8, hV9, hV10, hV11, hV12, hV13, hV14, hV15, hV16, hV17, hV18, hV19, hV20, -⟩ G
              exact stepAt.pure (v := .pointer (some ⟨w.heap.size, 0, none⟩)) rfl rfl (by go_simp) rfl
            · rintro vs u ⟨hV0, hV1, hV2, hV3, hV4, hV5, hV6, hV7, hV8, hV9, hV10, hV11, hV12, hV13, hV14, hV15, hV16, hV17, hV18, hV19, hV20, -⟩ G
              have o0 := (ID.out.x0.fr G (by omega)).c0
              have eV0 : vs 0 = .pointer (some ⟨w.heap.size, 0, none⟩) := hV0 rfl
              exact stepAt.pure (v := .slice A sha.length c) rfl rfl (by simp only [eV0]; go_simp) rfl
            · rintro vs u ⟨hV0, hV1, hV2, hV3, hV4, hV5, hV6, hV7, hV8, hV9, hV10, hV11, hV12, hV13, hV14, hV15, hV16, hV17, hV18, hV19, hV20, -⟩ G
              have eV1 : vs 1 = .slice A sha.length c := hV1 rfl
              exact stepAt.pure (v := .int .i64 sha.length) rfl rfl (by simp only [eV1]; go_simp) rfl
            · rintro vs u ⟨hV0, hV1, hV2, hV3, hV4, hV5, hV6, hV7, hV8, hV9, hV10, hV11, hV12, hV13, hV14, hV15, hV16, hV17, hV18, hV19, hV20, -⟩ G
              have eV2 : vs 2 = .int .i64 sha.length := hV2 rfl
              exact stepAt.pure (v := .bool true) rfl rfl (by simp only [eV2]; go_simp <;> omega) rfl
            · rintro vs u ⟨hV0, hV1, hV2, hV3, hV4, hV5, hV6, hV7, hV8, hV9, hV10, hV11, hV12, hV13, hV14, hV15, hV16, hV17, hV18, hV19, hV20, -⟩ G
              have eV3 : vs 3 = .bool true := hV3 rfl
              exact stepAt.pure (v := .bool true) rfl rfl (by simp only [eV3]; go_simp) rfl
            · rintro vs u ⟨hV0, hV1, hV2, hV3, hV4, hV5, hV6, hV7, hV8, hV9, hV10, hV11, hV12, hV13, hV14, hV15, hV16, hV17, hV18, hV19, hV20, -⟩ G
              exact stepAt.unwanted rfl (wanted_not (g := 4) (b := false) (t := 37) rfl (by kernel_rfl) (congrArg some (show vs 4 = _ from hV4 rfl))) rfl
            · rintro vs u ⟨hV0, hV1, hV2, hV3, hV4, hV5, hV6, hV7, hV8, hV9, hV10, hV11, hV12, hV13, hV14, hV15, hV16, hV17, hV18, hV19, hV20, -⟩ G
              exact stepAt.unwanted rfl (wanted_not (g := 4) (b := false) (t := 37) rfl (by kernel_rfl) (congrArg some (show vs 4 = _ from hV4 rfl))) rfl
            · rintro vs u ⟨hV0, hV1, hV2, hV3, hV4, hV5, hV6, hV7, hV8, hV9, hV10, hV11, hV12, hV13, hV14, hV15, hV16, hV17, hV18, hV19, hV20, -⟩ G
              exact stepAt.unwanted rfl (wanted_not (g := 4) (b := false) (t := 37) rfl (by kernel_rfl) (congrArg some (show vs 4 = _ from hV4 rfl))) rfl
            · rintro vs u ⟨hV0, hV1, hV2, hV3, hV4, hV5, hV6, hV7, hV8, hV9, hV10, hV11, hV12, hV13, hV14, hV15, hV16, hV17, hV18, hV19, hV20, -⟩ G
              exact stepAt.unwanted rfl (wanted_not (g := 4) (b := false) (t := 37) rfl (by kernel_rfl) (congrArg some (show vs 4 = _ from hV4 rfl))) rfl
            · rintro vs u ⟨hV0, hV1, hV2, hV3, hV4, hV5, hV6, hV7, hV8, hV9, hV10, hV11, hV12, hV13, hV14, hV15, hV16, hV17, hV18, hV19, hV20, -⟩ G
              have eV4 : vs 4 = .bool true := hV4 rfl
              have eV8 : vs 8 = undef := hV8 rfl
              exact stepAt.pure (v := .bool true) rfl rfl (by simp only [eV4, eV8]; go_simp) rfl
            · rintro vs u ⟨hV0, hV1, hV2, hV3, hV4, hV5, hV6, hV7, hV8, hV9, hV10, hV11, hV12, hV13, hV14, hV15, hV16, hV17, hV18, hV19, hV20, -⟩ G
              have eV9 : vs 9 = .bool true := hV9 rfl
              exact stepAt.pure (v := .bool true) rfl rfl (by simp only [eV9]; go_simp) rfl
            · rintro vs u ⟨hV0, hV1, hV2, hV3, hV4, hV5, hV6, hV7, hV8, hV9, hV10, hV11, hV12, hV13, hV14, hV15, hV16, hV17, hV18, hV19, hV20, -⟩ G
              exact stepAt.unwanted rfl (wanted_not (g := 10) (b := false) (t := 43) rfl (by kernel_rfl) (congrArg some (show vs 10 = _ from hV10 rfl))) rfl
            · rintro vs u ⟨hV0, hV1, hV2, hV3, hV4, hV5, hV6, hV7, hV8, hV9, hV10, hV11, hV12, hV13, hV14, hV15, hV16, hV17, hV18, hV19, hV20, -⟩ G
              exact stepAt.unwanted rfl (wanted_not (g := 10) (b := false) (t := 43) rfl (by kernel_rfl) (congrArg some (show vs 10 = _ from hV10 rfl))) rfl
            · rintro vs u ⟨hV0, hV1, hV2, hV3, hV4, hV5, hV6, hV7, hV8, hV9, hV10, hV11, hV12, hV13, hV14, hV15, hV16, hV17, hV18, hV19, hV20, -⟩ G
              exact stepAt.unwanted rfl (wanted_not (g := 10) (b := false) (t := 43) rfl (by kernel_rfl) (congrArg some (show vs 10 = _ from hV10 rfl))) rfl
            · rintro vs u ⟨hV0, hV1, hV2, hV3, hV4, hV5, hV6, hV7, hV8, hV9, hV10, hV11, hV12, hV13, hV14, hV15, hV16, hV17, hV18, hV19, hV20, -⟩ G
              exact stepAt.unwanted rfl (wanted_not (g := 10) (b := false) (t := 43) rfl (by kernel_rfl) (congrArg some (show vs 10 = _ from hV10 rfl))) rfl
            · rintro vs u ⟨hV0, hV1, hV2, hV3, hV4, hV5, hV6, hV7, hV8, hV9, hV10, hV11, hV12, hV13, hV14, hV15, hV16, hV17, hV18, hV19, hV20, -⟩ G
              exact stepAt.unwanted rfl (wanted_not (g := 10) (b := false) (t := 43) rfl (by kernel_rfl) (congrArg some (show vs 10 = _ from hV10 rfl))) rfl
            · rintro vs u ⟨hV0, hV1, hV2, hV3, hV4, hV5, hV6, hV7, hV8, hV9, hV10, hV11, hV12, hV13, hV14, hV15, hV16, hV17, hV18, hV19, hV20, -⟩ G
              exact stepAt.unwanted rfl (wanted_not (g := 10) (b := false) (t := 43) rfl (by kernel_rfl) (congrArg some (show vs 10 = _ from hV10 rfl))) rfl
            · rintro vs u ⟨hV0, hV1, hV2, hV3, hV4, hV5, hV6, hV7, hV8, hV9, hV10, hV11, hV12, hV13, hV14, hV15, hV16, hV17, hV18, hV19, hV20, -⟩ G
              exact stepAt.unwanted rfl (wanted_not (g := 10) (b := false) (t := 43) rfl (by kernel_rfl) (congrArg some (show vs 10 = _ from hV10 rfl))) rfl
            · rintro vs u ⟨hV0, hV1, hV2, hV3, hV4, hV5, hV6, hV7, hV8, hV9, hV10, hV11, hV12, hV13, hV14, hV15, hV16, hV17, hV18, hV19, hV20, -⟩ G
              exact stepAt.unwanted rfl (wanted_not (g := 10) (b := false) (t := 43) rfl (by kernel_rfl) (congrArg some (show vs 10 = _ from hV10 rfl))) rfl
            · rintro vs u ⟨hV0, hV1, hV2, hV3, hV4, hV5, hV6, hV7, hV8, hV9, hV10, hV11, hV12, hV13, hV14, hV15, hV16, hV17, hV18, hV19, hV20, -⟩ G
              exact stepAt.unwanted rfl (wanted_not (g := 10) (b := false) (t := 43) rfl (by kernel_rfl) (congrArg some (show vs 10 = _ from hV10 rfl))) rfl
            · rintro vs u ⟨hV0, hV1, hV2, hV3, hV4, hV5, hV6, hV7, hV8, hV9, hV10, hV11, hV12, hV13, hV14, hV15, hV16, hV17, hV18, hV19, hV20, -⟩ G
              have eV10 : vs 10 = .bool true := hV10 rfl
              have eV19 : vs 19 = undef := hV19 rfl
              exact stepAt.pure (v := .bool true) rfl rfl (by simp only [eV10, eV19]; go_simp) rfl
          case looses =>
            exact trivial
          case cont =>
            rintro vs u ⟨hV0, hV1, hV2, hV3, hV4, hV5, hV6, hV7, hV8, hV9, hV10, hV11, hV12, hV13, hV14, hV15, hV16, hV17, hV18, hV19, hV20, -⟩ G
            have eV0 : vs 0 = .pointer (some ⟨w.heap.size, 0, none⟩) := hV0
            have eV1 : vs 1 = .slice A sha.length c := hV1
            have eV2 : vs 2 = .int .i64 sha.length := hV2
            have eV3 : vs 3 = .bool true := hV3
            have eV4 : vs 4 = .bool true := hV4
            have eV5 : vs 5 = undef := hV5
            have eV6 : vs 6 = undef := hV6
            have eV7 : vs 7 = undef := hV7
            have eV8 : vs 8 = undef := hV8
            have eV9 : vs 9 = .bool true := hV9
            have eV10 : vs 10 = .bool true := hV10
            have eV11 : vs 11 = undef := hV11
            have eV12 : vs 12 = undef := hV12
            have eV13 : vs 13 = undef := hV13
            have eV14 : vs 14 = undef := hV14
            have eV15 : vs 15 = undef := hV15
            have eV16 : vs 16 = undef := hV16
            have eV17 : vs 17 = undef := hV17
            have eV18 : vs 18 = undef := hV18
            have eV19 : vs 19 = undef := hV19
            have eV20 : vs 20 = .bool true := hV20
            simp only [eV0, eV1, eV2, eV3, eV4, eV5, eV6, eV7, eV8, eV9, eV10, eV11, eV12, eV13, eV14, eV15, eV16, eV17, eV18, eV19, eV20]
            clear eV0 eV1 eV2 eV3 eV4 eV5 eV6 eV7 eV8 eV9 eV10 eV11 eV12 eV13 eV14 eV15 eV16 eV17 eV18 eV19 eV20 hV0 hV1 hV2 hV3 hV4 hV5 hV6 hV7 hV8 hV9 hV10 hV11 hV12 hV13 hV14 hV15 hV16 hV17 hV18 hV19 hV20
            refine wpTill.done (by kernel_rfl) ?_
            refine ⟨fun _ h => (nomatch h), ?_⟩
            have HN : r = 13 := hr.out.symm.trans (mmE_13 HM1.out HM2.out h2)
            have h0 : (13 : Int) ≠ 0 := by decide
            have I3 := Lib.hid (ID.out.keep G (fun k hk => by omega))
            have x2 := I3.out.x2
            have d0 := x2.c0
            have d1 := x2.c1
            have f0 := x2.free 0
            have f1 := x2.free 1
            have F9 := fr_put2 u (w.heap.size + 2) (.slice none 0 0) (.slice none 0 0)
            have y2 := x2.set2 (.slice none 0 0) (.slice none 0 0)
            have F8 := I3.out.fr.comp F9 (R := fun k => k < w.heap.size) fun k _ hk => ⟨hk, by omega⟩
            gi_wp2_with fail
            exact ⟨_, results_mm rfl rfl y2, ⟨none, 0, 0, none, 0, 0, by rw [HN], fun _ => ⟨rfl, rfl⟩, fun h => absurd (HN.symm.trans h) h0, F8⟩⟩
      obtain ⟨a1, b1, es, ha1, hb1, ha2, hb2, hea⟩ := two_dims HM1.out h2.1
      obtain ⟨b2, c1, et, hb3, hc1, hb4, hc2, heb⟩ := two_dims HM2.out h2.2.1
      have ebb : b2 = b1 := by
        have := h2.2.2
        rw [es, et] at this
        simp at this
        omega
      subst ebb
      have h3 := h2.1
      have h4 := h2.2.1
      have H2 := Lib.hid h2
      clear h2
      obtain ⟨ad, hA, g1, _⟩ := Kd.int_cell ID.out.a1 (i := 1) (by omega)
      obtain ⟨ad', hA', g0, _⟩ := Kd.int_cell ID.out.a1 (i := 0) (by omega)
      obtain ⟨ae, hB, g2, _⟩ := Kd.int_cell ID.out.b1 (i := 0) (by omega)
      obtain ⟨ae', hB', g3, _⟩ := Kd.int_cell ID.out.b1 (i := 1) (by omega)
      obtain rfl : ad' = ad := by rw [hA] at hA'; exact (Option.some.inj hA').symm
      obtain rfl : ae' = ae := by rw [hB] at hB'; exact (Option.some.inj hB').symm
      have v1 : sha[1] = (b2 : Int) := by simp only [es, List.getElem_cons_succ, List.getElem_cons_zero]
      have v3 : shb[1] = (c1 : Int) := by simp only [et, List.getElem_cons_succ, List.getElem_cons_zero]
      have v0 : sha[0] = (a1 : Int) := by simp only [es, List.getElem_cons_zero]
      have v2 : shb[0] = (b2 : Int) := by simp only [et, List.getElem_cons_zero]
      rw [v1] at g1
      rw [v3] at g3
      rw [v0, addr_zero] at g0
      rw [v2, addr_zero] at g2
      replace g1 : wr.drew.cell? ⟨ad'.block, ad'.off + 1, none⟩ = some (.int .i64 (b2 : Int)) := g1
      replace g3 : wr.drew.cell? ⟨ae'.block, ae'.off + 1, none⟩ = some (.int .i64 (c1 : Int)) := g3
      clear v0 v1 v2 v3
      have HES := Lib.hid es
      have HET := Lib.hid et
      have HEA := Lib.hid hea
      have HEB := Lib.hid heb
      clear es et hea heb
      subst hA
      subst hB
      clear hA' hB'
      gi_wp2_with fail
      refine wpIn_wide.2 (wp_calm ?_)
      refine wpTill.begin (fun _ => True) 20 (by kernel_rfl) ?_
      change wpTill _ _ _ _ _ _ 21 _ _ _
      refine wpTill.free (jj := 20) (m := 0) [(0, Fact.eq (.pointer (some ⟨w.heap.size, 0, none⟩))),
            (1, Fact.eq (.slice (some ad') sha.length c)),
            (2, Fact.eq (.int .i64 sha.length)),
            (3, Fact.eq (.bool false)),
            (4, Fact.eq (.bool false)),
            (5, Fact.eq (.pointer (some ⟨w.heap.size + 1, 0, none⟩))),
            (6, Fact.eq (.slice (some ae') shb.length d)),
            (7, Fact.eq (.int .i64 shb.length)),
            (8, Fact.eq (.bool false)),
            (9, Fact.eq (.bool false)),
            (10, Fact.eq (.bool false)),
            (11, Fact.eq (.pointer (some ⟨w.heap.size, 0, none⟩))),
            (12, Fact.eq (.slice (some ad') sha.length c)),
            (13, Fact.eq (.pointer (some ⟨ad'.block, ad'.off + 1, none⟩))),
            (14, Fact.eq (.int .i64 (b2 : Int))),
            (15, Fact.eq (.pointer (some ⟨w.heap.size + 1, 0, none⟩))),
            (16, Fact.eq (.slice (some ae') shb.length d)),
            (17, Fact.eq (.pointer (some ae'))),
            (18, Fact.eq (.int .i64 (b2 : Int))),
            (19, Fact.eq (.bool false)),
            (20, Fact.eq (.bool false))] [] [0, 1, 3, 7, 15, 31, 63, 127, 255, 511, 1023, 2047, 4095, 8191, 16383, 2047, 34815, 100351, 231423, 524287, 1048575] [] ?_ (by kernel_rfl) (by kernel_rfl) (by kernel_rfl) [(0, some 33), (1, some 34), (2, some 35), (3, some 36), (4, some 37), (5, some 38), (6, some 39), (7, some 40), (8, some 41), (9, some 42), (10, some 43), (11, some 44), (12, some 45), (13, some 46), (14, some 47), (15, some 48), (16, some 49), (17, some 50), (18, some 51), (19, some 52), (20, some 53)] (by kernel_rfl) ?hA ?hQ (fun _ _ => trivial) (by kernel_rfl) ?steps ?looses ?cont
      case hQ => exact fun c _ _ _ _ h => absurd rfl (h.1 c)
      case hA =>
        intro vs
        simp only [fillD, List.foldl_cons, List.foldl_nil, Act.put, List.setIfInBounds_toArray, List.set_cons_zero, List.set_cons_succ]
        exact rfl
      case steps =>
        refine ⟨?_, ?_, ?_, ?_, ?_, ?_, ?_, ?_, ?_, ?_, ?_, ?_, ?_, ?_, ?_, ?_, ?_, ?_, ?_, ?_, ?_, trivial⟩
        · rintro vs u ⟨hV0, hV1, hV2, hV3, hV4, hV5, hV6, hV7, hV8, hV9, hV10, hV11, hV12, hV13, hV14, hV15, hV16, hV17, hV18, hV19, hV20, -⟩ G
          exact stepAt.pure (v := .pointer (some ⟨w.heap.size, 0, none⟩)) rfl rfl (by go_simp) rfl
        · rintro vs u ⟨hV0, hV1, hV2, hV3, hV4, hV5, hV6, hV7, hV8, hV9, hV10, hV11, hV12, hV13, hV14, hV15, hV16, hV17, hV18, hV19, hV20, -⟩ G
          have o0 := (ID.out.x0.fr G (by omega)).c0
          have eV0 : vs 0 = .pointer (some ⟨w.heap.size, 0, none⟩) := hV0 rfl
          exact stepAt.pure (v := .slice (some ad') sha.length c) rfl rfl (by simp only [eV0]; go_simp) rfl
        · rintro vs u ⟨hV0, hV1, hV2, hV3, hV4, hV5, hV6, hV7, hV8, hV9, hV10, hV11, hV12, hV13, hV14, hV15, hV16, hV17, hV18, hV19, hV20, -⟩ G
          have eV1 : vs 1 = .slice (some ad') sha.length c := hV1 rfl
          exact stepAt.pure (v := .int .i64 sha.length) rfl rfl (by simp only [eV1]; go_simp) rfl
        · rintro vs u ⟨hV0, hV1, hV2, hV3, hV4, hV5, hV6, hV7, hV8, hV9, hV10, hV11, hV12, hV13, hV14, hV15, hV16, hV17, hV18, hV19, hV20, -⟩ G
          have eV2 : vs 2 = .int .i64 sha.length := hV2 rfl
          exact stepAt.pure (v := .bool false) rfl rfl (by simp only [eV2]; go_simp <;> omega) rfl
        · rintro vs u ⟨hV0, hV1, hV2, hV3, hV4, hV5, hV6, hV7, hV8, hV9, hV10, hV11, hV12, hV13, hV14, hV15, hV16, hV17, hV18, hV19, hV20, -⟩ G
          have eV3 : vs 3 = .bool false := hV3 rfl
          exact stepAt.pure (v := .bool false) rfl rfl (by simp only [eV3]; go_simp) rfl
        · rintro vs u ⟨hV0, hV1, hV2, hV3, hV4, hV5, hV6, hV7, hV8, hV9, hV10, hV11, hV12, hV13, hV14, hV15, hV16, hV17, hV18, hV19, hV20, -⟩ G
          exact stepAt.pure (v := .pointer (some ⟨w.heap.size + 1, 0, none⟩)) rfl (wanted_by (g := 4) (b := false) (t := 37) rfl (by kernel_rfl) (congrArg some (show vs 4 = _ from hV4 rfl))) (by go_simp) rfl
        · rintro vs u ⟨hV0, hV1, hV2, hV3, hV4, hV5, hV6, hV7, hV8, hV9, hV10, hV11, hV12, hV13, hV14, hV15, hV16, hV17, hV18, hV19, hV20, -⟩ G
          have o0 := (ID.out.x1.fr G (by omega)).c0
          have eV5 : vs 5 = .pointer (some ⟨w.heap.size + 1, 0, none⟩) := hV5 rfl
          exact stepAt.pure (v := .slice (some ae') shb.length d) rfl (wanted_by (g := 4) (b := false) (t := 37) rfl (by kernel_rfl) (congrArg some (show vs 4 = _ from hV4 rfl))) (by simp only [eV5]; go_simp) rfl
        · rintro vs u ⟨hV0, hV1, hV2, hV3, hV4, hV5, hV6, hV7, hV8, hV9, hV10, hV11, hV12, hV13, hV14, hV15, hV16, hV17, hV18, hV19, hV20, -⟩ G
          have eV6 : vs 6 = .slice (some ae') shb.length d := hV6 rfl
          exact stepAt.pure (v := .int .i64 shb.length) rfl (wanted_by (g := 4) (b := false) (t := 37) rfl (by kernel_rfl) (congrArg some (show vs 4 = _ from hV4 rfl))) (by simp only [eV6]; go_simp) rfl
        · rintro vs u ⟨hV0, hV1, hV2, hV3, hV4, hV5, hV6, hV7, hV8, hV9, hV10, hV11, hV12, hV13, hV14, hV15, hV16, hV17, hV18, hV19, hV20, -⟩ G
          have eV7 : vs 7 = .int .i64 shb.length := hV7 rfl
          exact stepAt.pure (v := .bool false) rfl (wanted_by (g := 4) (b := false) (t := 37) rfl (by kernel_rfl) (congrArg some (show vs 4 = _ from hV4 rfl))) (by simp only [eV7]; go_simp <;> omega) rfl
        · rintro vs u ⟨hV0, hV1, hV2, hV3, hV4, hV5, hV6, hV7, hV8, hV9, hV10, hV11, hV12, hV13, hV14, hV15, hV16, hV17, hV18, hV19, hV20, -⟩ G
          have eV4 : vs 4 = .bool false := hV4 rfl
          have eV8 : vs 8 = .bool false := hV8 rfl
          exact stepAt.pure (v := .bool false) rfl rfl (by simp only [eV4, eV8]; go_simp) rfl
        · rintro vs u ⟨hV0, hV1, hV2, hV3, hV4, hV5, hV6, hV7, hV8, hV9, hV10, hV11, hV12, hV13, hV14, hV15, hV16, hV17, hV18, hV19, hV20, -⟩ G
          have eV9 : vs 9 = .bool false := hV9 rfl
          exact stepAt.pure (v := .bool false) rfl rfl (by simp only [eV9]; go_simp) rfl
        · rintro vs u ⟨hV0, hV1, hV2, hV3, hV4, hV5, hV6, hV7, hV8, hV9, hV10, hV11, hV12, hV13, hV14, hV15, hV16, hV17, hV18, hV19, hV20, -⟩ G
          exact stepAt.pure (v := .pointer (some ⟨w.heap.size, 0, none⟩)) rfl (wanted_by (g := 10) (b := false) (t := 43) rfl (by kernel_rfl) (congrArg some (show vs 10 = _ from hV10 rfl))) (by go_simp) rfl
        · rintro vs u ⟨hV0, hV1, hV2, hV3, hV4, hV5, hV6, hV7, hV8, hV9, hV10, hV11, hV12, hV13, hV14, hV15, hV16, hV17, hV18, hV19, hV20, -⟩ G
          have o0 := (ID.out.x0.fr G (by omega)).c0
          have eV11 : vs 11 = .pointer (some ⟨w.heap.size, 0, none⟩) := hV11 rfl
          exact stepAt.pure (v := .slice (some ad') sha.length c) rfl (wanted_by (g := 10) (b := false) (t := 43) rfl (by kernel_rfl) (congrArg some (show vs 10 = _ from hV10 rfl))) (by simp only [eV11]; go_simp) rfl
        · rintro vs u ⟨hV0, hV1, hV2, hV3, hV4, hV5, hV6, hV7, hV8, hV9, hV10, hV11, hV12, hV13, hV14, hV15, hV16, hV17, hV18, hV19, hV20, -⟩ G
          have eV12 : vs 12 = .slice (some ad') sha.length c := hV12 rfl
          exact stepAt.pure (v := .pointer (some ⟨ad'.block, ad'.off + 1, none⟩)) rfl (wanted_by (g := 10) (b := false) (t := 43) rfl (by kernel_rfl) (congrArg some (show vs 10 = _ from hV10 rfl))) (by simp only [eV12]; go_simp) rfl
        · rintro vs u ⟨hV0, hV1, hV2, hV3, hV4, hV5, hV6, hV7, hV8, hV9, hV10, hV11, hV12, hV13, hV14, hV15, hV16, hV17, hV18, hV19, hV20, -⟩ G
          have o0 := G.cell g1 (World.block_lt_of_cell? _ _ g1)
          have eV13 : vs 13 = .pointer (some ⟨ad'.block, ad'.off + 1, none⟩) := hV13 rfl
          exact stepAt.pure (v := .int .i64 (b2 : Int)) rfl (wanted_by (g := 10) (b := false) (t := 43) rfl (by kernel_rfl) (congrArg some (show vs 10 = _ from hV10 rfl))) (by simp only [eV13]; go_simp) rfl
        · rintro vs u ⟨hV0, hV1, hV2, hV3, hV4, hV5, hV6, hV7, hV8, hV9, hV10, hV11, hV12, hV13, hV14, hV15, hV16, hV17, hV18, hV19, hV20, -⟩ G
          exact stepAt.pure (v := .pointer (some ⟨w.heap.size + 1, 0, none⟩)) rfl (wanted_by (g := 10) (b := false) (t := 43) rfl (by kernel_rfl) (congrArg some (show vs 10 = _ from hV10 rfl))) (by go_simp) rfl
        · rintro vs u ⟨hV0, hV1, hV2, hV3, hV4, hV5, hV6, hV7, hV8, hV9, hV10, hV11, hV12, hV13, hV14, hV15, hV16, hV17, hV18, hV19, hV20, -⟩ G
          have o0 := (ID.out.x1.fr G (by omega)).c0
          have eV15 : vs 15 = .pointer (some ⟨w.heap.size + 1, 0, none⟩) := hV15 rfl
          exact stepAt.pure (v := .slice (some ae') shb.length d) rfl (wanted_by (g := 10) (b := false) (t := 43) rfl (by kernel_rfl) (congrArg some (show vs 10 = _ from hV10 rfl))) (by simp only [eV15]; go_simp) rfl
        · rintro vs u ⟨hV0, hV1, hV2, hV3, hV4, hV5, hV6, hV7, hV8, hV9, hV10, hV11, hV12, hV13, hV14, hV15, hV16, hV17, hV18, hV19, hV20, -⟩ G
          have eV16 : vs 16 = .slice (some ae') shb.length d := hV16 rfl
          exact stepAt.pure (v := .pointer (some ae')) rfl (wanted_by (g := 10) (b := false) (t := 43) rfl (by kernel_rfl) (congrArg some (show vs 10 = _ from hV10 rfl))) (by simp only [eV16]; go_simp) rfl
        · rintro vs u ⟨hV0, hV1, hV2, hV3, hV4, hV5, hV6, hV7, hV8, hV9, hV10, hV11, hV12, hV13, hV14, hV15, hV16, hV17, hV18, hV19, hV20, -⟩ G
          have o0 := G.cell g2 (World.block_lt_of_cell? _ _ g2)
          have eV17 : vs 17 = .pointer (some ae') := hV17 rfl
          exact stepAt.pure (v := .int .i64 (b2 : Int)) rfl (wanted_by (g := 10) (b := false) (t := 43) rfl (by kernel_rfl) (congrArg some (show vs 10 = _ from hV10 rfl))) (by simp only [eV17]; go_simp) rfl
        · rintro vs u ⟨hV0, hV1, hV2, hV3, hV4, hV5, hV6, hV7, hV8, hV9, hV10, hV11, hV12, hV13, hV14, hV15, hV16, hV17, hV18, hV19, hV20, -⟩ G
          have eV14 : vs 14 = .int .i64 (b2 : Int) := hV14 rfl
          have eV18 : vs 18 = .int .i64 (b2 : Int) := hV18 rfl
          exact stepAt.pure (v := .bool false) rfl (wanted_by (g := 10) (b := false) (t := 43) rfl (by kernel_rfl) (congrArg some (show vs 10 = _ from hV10 rfl))) (by simp only [eV14, eV18]; go_simp <;> omega) rfl
        · rintro vs u ⟨hV0, hV1, hV2, hV3, hV4, hV5, hV6, hV7, hV8, hV9, hV10, hV11, hV12, hV13, hV14, hV15, hV16, hV17, hV18, hV19, hV20, -⟩ G
          have eV10 : vs 10 = .bool false := hV10 rfl
          have eV19 : vs 19 = .bool false := hV19 rfl
          exact stepAt.pure (v := .bool false) rfl rfl (by simp only [eV10, eV19]; go_simp) rfl
      case looses =>
        exact trivial
      case cont =>
        rintro vs u ⟨hV0, hV1, hV2, hV3, hV4, hV5, hV6, hV7, hV8, hV9, hV10, hV11, hV12, hV13, hV14, hV15, hV16, hV17, hV18, hV19, hV20, -⟩ G
        have eV0 : vs 0 = .pointer (some ⟨w.heap.size, 0, none⟩) := hV0
        have eV1 : vs 1 = .slice (some ad') sha.length c := hV1
        have eV2 : vs 2 = .int .i64 sha.length := hV2
        have eV3 : vs 3 = .bool false := hV3
        have eV4 : vs 4 = .bool false := hV4
        have eV5 : vs 5 = .pointer (some ⟨w.heap.size + 1, 0, none⟩) := hV5
        have eV6 : vs 6 = .slice (some ae') shb.length d := hV6
        have eV7 : vs 7 = .int .i64 shb.length := hV7
        have eV8 : vs 8 = .bool false := hV8
        have eV9 : vs 9 = .bool false := hV9
        have eV10 : vs 10 = .bool false := hV10
        have eV11 : vs 11 = .pointer (some ⟨w.heap.size, 0, none⟩) := hV11
        have eV12 : vs 12 = .slice (some ad') sha.length c := hV12
        have eV13 : vs 13 = .pointer (some ⟨ad'.block, ad'.off + 1, none⟩) := hV13
        have eV14 : vs 14 = .int .i64 (b2 : Int) := hV14
        have eV15 : vs 15 = .pointer (some ⟨w.heap.size + 1, 0, none⟩) := hV15
        have eV16 : vs 16 = .slice (some ae') shb.length d := hV16
        have eV17 : vs 17 = .pointer (some ae') := hV17
        have eV18 : vs 18 = .int .i64 (b2 : Int) := hV18
        have eV19 : vs 19 = .bool false := hV19
        have eV20 : vs 20 = .bool false := hV20
        simp only [eV0, eV1, eV2, eV3, eV4, eV5, eV6, eV7, eV8, eV9, eV10, eV11, eV12, eV13, eV14, eV15, eV16, eV17, eV18, eV19, eV20]
        clear eV0 eV1 eV2 eV3 eV4 eV5 eV6 eV7 eV8 eV9 eV10 eV11 eV12 eV13 eV14 eV15 eV16 eV17 eV18 eV19 eV20 hV0 hV1 hV2 hV3 hV4 hV5 hV6 hV7 hV8 hV9 hV10 hV11 hV12 hV13 hV14 hV15 hV16 hV17 hV18 hV19 hV20
        refine wpTill.done (by kernel_rfl) ?_
        refine ⟨fun _ h => (nomatch h), ?_⟩
        replace g0 := G.cell g0 (World.block_lt_of_cell? _ _ g0)
        replace g1 := G.cell g1 (World.block_lt_of_cell? _ _ g1)
        replace g3 := G.cell g3 (World.block_lt_of_cell? _ _ g3)
        replace ID := Lib.hid (ID.out.keep G (fun k hk => by omega))
        have ltu := ID.out.lt
        clear g2 G ltd
        gi_wp2_with fail
        have l1 : (1 : Int) < sha.length := by omega
        have l2 : (1 : Int) < shb.length := by omega
        have l0 : (0 : Int) < sha.length := by omega
        have KS : ∀ v, Fr (fun k => k < u.drew.heap.size) u.drew v → v.cell? ⟨w.heap.size, 0, none⟩ = some (.slice (some ad') sha.length c) ∧ v.cell? ⟨w.heap.size + 1, 0, none⟩ = some (.slice (some ae') shb.length d) ∧ v.cell? ad' = some (.int .i64 (a1 : Int)) ∧ v.cell? ⟨ad'.block, ad'.off + 1, none⟩ = some (.int .i64 (b2 : Int)) ∧ v.cell? ⟨ae'.block, ae'.off + 1, none⟩ = some (.int .i64 (c1 : Int)) := fun v h => by
          have h' := (Fr.refl (fun k => k < u.heap.size) u).drew.trans h
          exact ⟨(ID.out.x0.fr h' (by omega)).c0, (ID.out.x1.fr h' (by omega)).c0, h'.cell g0 (World.block_lt_of_cell? _ _ g0), h'.cell g1 (World.block_lt_of_cell? _ _ g1), h'.cell g3 (World.block_lt_of_cell? _ _ g3)⟩
        have S0 := KS _ (Fr.refl _ _)
        refine wpIn_wide.2 (wp_calm ?_)
        refine wpTill.begin (fun v => v.cell? ⟨w.heap.size, 0, none⟩ = some (.slice (some ad') sha.length c) ∧ v.cell? ⟨w.heap.size + 1, 0, none⟩ = some (.slice (some ae') shb.length d) ∧ v.cell? ad' = some (.int .i64 (a1 : Int)) ∧ v.cell? ⟨ad'.block, ad'.off + 1, none⟩ = some (.int .i64 (b2 : Int)) ∧ v.cell? ⟨ae'.block, ae'.off + 1, none⟩ = some (.int .i64 (c1 : Int))) 16 (by kernel_rfl) ?_
        change wpTill _ _ _ _ _ _ 17 _ _ _
        refine wpTill.take 0 (.pointer (some ⟨w.heap.size, 0, none⟩)) rfl (by kernel_rfl) (by kernel_rfl) (fun c _ _ h => absurd rfl (h.1 c)) S0 (by rfl) (fun u hu => by go_simp) ?_
        try simp only [Act.put, List.setIfInBounds_toArray, List.set_cons_zero, List.set_cons_succ]
        refine wpTill.take 1 (.slice (some ad') sha.length c) rfl (by kernel_rfl) (by kernel_rfl) (fun c _ _ h => absurd rfl (h.1 c)) S0 (by rfl) (fun u hu => by go_simp) ?_
        try simp only [Act.put, List.setIfInBounds_toArray, List.set_cons_zero, List.set_cons_succ]
        refine wpTill.take 2 (.pointer (some ad')) rfl (by kernel_rfl) (by kernel_rfl) (fun c _ _ h => absurd rfl (h.1 c)) S0 (by rfl) (fun u hu => by go_simp) ?_
        try simp only [Act.put, List.setIfInBounds_toArray, List.set_cons_zero, List.set_cons_succ]
        refine wpTill.take 3 (.int .i64 (a1 : Int)) rfl (by kernel_rfl) (by kernel_rfl) (fun c _ _ h => absurd rfl (h.1 c)) S0 (by rfl) (fun u hu => by go_simp) ?_
        try simp only [Act.put, List.setIfInBounds_toArray, List.set_cons_zero, List.set_cons_succ]
        refine wpTill.take 4 (.pointer (some ⟨w.heap.size, 0, none⟩)) rfl (by kernel_rfl) (by kernel_rfl) (fun c _ _ h => absurd rfl (h.1 c)) S0 (by rfl) (fun u hu => by go_simp) ?_
        try simp only [Act.put, List.setIfInBounds_toArray, List.set_cons_zero, List.set_cons_succ]
        refine wpTill.take 5 (.slice (some ad') sha.length c) rfl (by kernel_rfl) (by kernel_rfl) (fun c _ _ h => absurd rfl (h.1 c)) S0 (by rfl) (fun u hu => by go_simp) ?_
        try simp only [Act.put, List.setIfInBounds_toArray, List.set_cons_zero, List.set_cons_succ]
        refine wpTill.take 6 (.pointer (some ⟨ad'.block, ad'.off + 1, none⟩)) rfl (by kernel_rfl) (by kernel_rfl) (fun c _ _ h => absurd rfl (h.1 c)) S0 (by rfl) (fun u hu => by go_simp) ?_
        try simp only [Act.put, List.setIfInBounds_toArray, List.set_cons_zero, List.set_cons_succ]
        refine wpTill.take 7 (.int .i64 (b2 : Int)) rfl (by kernel_rfl) (by kernel_rfl) (fun c _ _ h => absurd rfl (h.1 c)) S0 (by rfl) (fun u hu => by go_simp) ?_
        try simp only [Act.put, List.setIfInBounds_toArray, List.set_cons_zero, List.set_cons_succ]
        refine wpTill.take 8 (.pointer (some ⟨w.heap.size + 1, 0, none⟩)) rfl (by kernel_rfl) (by kernel_rfl) (fun c _ _ h => absurd rfl (h.1 c)) S0 (by rfl) (fun u hu => by go_simp) ?_
        try simp only [Act.put, List.setIfInBounds_toArray, List.set_cons_zero, List.set_cons_succ]
        refine wpTill.take 9 (.slice (some ae') shb.length d) rfl (by kernel_rfl) (by kernel_rfl) (fun c _ _ h => absurd rfl (h.1 c)) S0 (by rfl) (fun u hu => by go_simp) ?_
        try simp only [Act.put, List.setIfInBounds_toArray, List.set_cons_zero, List.set_cons_succ]
        refine wpTill.take 10 (.pointer (some ⟨ae'.block, ae'.off + 1, none⟩)) rfl (by kernel_rfl) (by kernel_rfl) (fun c _ _ h => absurd rfl (h.1 c)) S0 (by rfl) (fun u hu => by go_simp) ?_
        try simp only [Act.put, List.setIfInBounds_toArray, List.set_cons_zero, List.set_cons_succ]
        refine wpTill.take 11 (.int .i64 (c1 : Int)) rfl (by kernel_rfl) (by kernel_rfl) (fun c _ _ h => absurd rfl (h.1 c)) S0 (by rfl) (fun u hu => by go_simp) ?_
        try simp only [Act.put, List.setIfInBounds_toArray, List.set_cons_zero, List.set_cons_succ]
        refine wpTill.twoNew 12 13 (.cells #[.int .i64 0] 3) (.cells #[.int .i64 0] 3) rfl rfl (by kernel_rfl) (by kernel_rfl) (by kernel_rfl) rfl rfl (by decide) (fun d h e => by cases h; cases e) (fun a u => by go_simp) (fun a u => by go_simp) KS ?_
        intro b10 b11 U hne l10 l11 hb10 hb11 hf0
        try simp only [Act.put, List.setIfInBounds_toArray, List.set_cons_zero, List.set_cons_succ]
        have z10 : Box U b10 3 (.int .i64 0) := hb10
        have z11 : Box U b11 3 (.int .i64 0) := hb11
        have hSD : u.drew.heap.size = u.heap.size := rfl
        replace ID := Lib.hid ((ID.out.keep (Fr.refl (fun _ => True) u).drew (fun _ _ => trivial)).keep hf0 (fun k hk => by omega))
        have ltU := hf0.size
        have e10 := z10.cell
        have f10 := z10.free
        clear S0 hb10 hb11 g0 g1 g3
        refine wpTill.next 14 rfl (by kernel_rfl) (by rfl) (fun KC hKC => ?_)
        go_simp
        refine hKC _ _ (fun _ => KS _ hf0) ?_
        clear hKC KC
        try simp only [Act.put, List.setIfInBounds_toArray, List.set_cons_zero, List.set_cons_succ]
        have hf1 : Fr (fun k => k < u.drew.heap.size) u.drew (U.setCell ⟨b10, 0, none⟩ (.int .i64 (b2 : Int))) := hf0.comp (fr_set1 U b10 0 (.int .i64 (b2 : Int))) fun k _ hk => ⟨hk, by omega⟩
        refine wpTill.next 15 rfl (by kernel_rfl) (by rfl) (fun KC hKC => ?_)
        go_simp
        refine hKC _ _ (fun _ => KS _ hf1) ?_
        clear hKC KC hf0 hf1 KS
        try simp only [Act.put, List.setIfInBounds_toArray, List.set_cons_zero, List.set_cons_succ]
        have FA := fr_set1 U b10 0 (.int .i64 (b2 : Int))
        replace ID := Lib.hid (ID.out.keep FA (fun k hk => by omega))
        replace z11 := z11.fr FA (fun e => hne e.symm)
        replace z10 := z10.set (.int .i64 (b2 : Int))
        have sU1 := FA.size
        generalize U.setCell ⟨b10, 0, none⟩ (.int .i64 (b2 : Int)) = U1 at ID z10 z11 sU1 FA ⊢
        have e11 := z11.cell
        have f11 := z11.free
        refine wpTill.next 16 rfl (by kernel_rfl) (by rfl) (fun KC hKC => ?_)
        go_simp
        refine hKC _ _ (no_wait (by kernel_rfl)) ?_
        clear hKC KC
        try simp only [Act.put, List.setIfInBounds_toArray, List.set_cons_zero, List.set_cons_succ]
        have FB := fr_set1 U1 b11 0 (.int .i64 (c1 : Int))
        replace ID := Lib.hid (ID.out.keep FB (fun k hk => by omega))
        replace z10 := z10.fr FB hne
        replace z11 := z11.set (.int .i64 (c1 : Int))
        have sU2 := FB.size
        generalize U1.setCell ⟨b11, 0, none⟩ (.int .i64 (c1 : Int)) = U2 at ID z10 z11 sU2 FB ⊢
        clear e10 f10 e11 f11 FA FB l0 l1 l2
        refine wpTill.done (by kernel_rfl) ?_
        refine ⟨fun _ h => (nomatch h), ?_⟩
        have k11 := z11.cell
        have oi := sl_ints (w := U2.alloc (.cells #[.int .i64 (a1 : Int), .int .i64 (c1 : Int)] 3)) (b := U2.heap.size) (t := 3) [(a1 : Int), (c1 : Int)] [.int .i64 (a1 : Int), .int .i64 (c1 : Int)] rfl (by intro x hx; rcases List.mem_cons.1 hx with rfl | hx; omega; rw [List.mem_singleton] at hx; omega) (by simp) (heap_alloc_new U2 _)
        obtain ⟨r2, hr2⟩ : ∃ r, mayS [(a1 : Int), (c1 : Int)] = r := ⟨_, rfl⟩
        have PP := Lib.hid (shmay_calls _ (.slice (some ⟨U2.heap.size, 0, none⟩) 2 2) [(a1 : Int), (c1 : Int)] oi)
        rw [hr2] at PP
        have HR2 := Lib.hid hr2
        clear oi hr2
        gi_wp2_with fail
        refine ⟨trivial, ?_⟩
        with_reducible refine (callsIn_wide.2 PP.out).mono ?_
        rintro e u2 ⟨rfl, hu⟩
        subst hu
        clear PP
        replace ID := Lib.hid (ID.out.keep ((Fr.refl (fun _ => True) U2).alloc (.cells #[.int .i64 (a1 : Int), .int .i64 (c1 : Int)] 3)) (fun _ _ => trivial))
        replace z10 := z10.alloc (.cells #[.int .i64 (a1 : Int), .int .i64 (c1 : Int)] 3)
        replace z11 := z11.alloc (.cells #[.int .i64 (a1 : Int), .int .i64 (c1 : Int)] 3)
        have HMS : Hid (mmE sha ea shb eb = r2) := Lib.hid ((mmE_s HM1.out HM2.out H2.out).trans (by rw [HES.out, HET.out]; exact HR2.out))
        have sU3 : U2.heap.size < (U2.alloc (.cells #[.int .i64 (a1 : Int), .int .i64 (c1 : Int)] 3)).heap.size := by rw [World.size_alloc]; omega
        generalize U2.alloc (.cells #[.int .i64 (a1 : Int), .int .i64 (c1 : Int)] 3) = U3 at ID z10 z11 sU3 ⊢
        clear k11
        by_cases h0 : r2 = 0
        case neg =>
          have HN : r = r2 := hr.out.symm.trans HMS.out
          have hb0 : (r2 == 0) = false := beq_eq_false_iff_ne.2 h0
          have I3 := ID
          have x2 := I3.out.x2
          have d0 := x2.c0
          have d1 := x2.c1
          have f0 := x2.free 0
          have f1 := x2.free 1
          have F9 := fr_put2 U3 (w.heap.size + 2) (.slice none 0 0) (.slice none 0 0)
          have y2 := x2.set2 (.slice none 0 0) (.slice none 0 0)
          have F8 := I3.out.fr.comp F9 (R := fun k => k < w.heap.size) fun k _ hk => ⟨hk, by omega⟩
          gi_wp2_with fail
          exact ⟨_, results_mm rfl rfl y2, ⟨none, 0, 0, none, 0, 0, by rw [HN], fun _ => ⟨rfl, rfl⟩, fun h => absurd (HN.symm.trans h) h0, F8⟩⟩
        subst h0
        have HN : r = 0 := hr.out.symm.trans HMS.out
        have z10' : Box U3 b10 3 (.int .i64 (b2 : Int)) := z10
        have z11' : Box U3 b11 3 (.int .i64 (c1 : Int)) := z11
        have k11 := z11'.cell
        have al := fun R => ((Fr.refl R U3).alloc (.cells #[.int .i64 (a1 : Int), .int .i64 (c1 : Int)] 3)).alloc (.cells #[.slice (some ⟨U3.heap.size, 0, none⟩) 2 2, .slice none 0 0] 26)
        have z10b := z10'.fr (al (fun _ => True)) trivial
        have z11b := z11'.fr (al (fun _ => True)) trivial
        have k11b := z11b.cell
        have ID4 := Lib.hid (ID.out.keep (al (fun _ => True)) (fun _ _ => trivial))
        have b13 := Box2.new (U3.alloc (.cells #[.int .i64 (a1 : Int), .int .i64 (c1 : Int)] 3)) 26 (.slice (some ⟨U3.heap.size, 0, none⟩) 2 2) (.slice none 0 0)
        have oSh := (Own.ints (e := 3) (S := fun k => w.heap.size + 3 ≤ k ∧ k ≤ U3.heap.size) U3 [(a1 : Int), (c1 : Int)] #[.int .i64 (a1 : Int), .int .i64 (c1 : Int)] rfl (by intro x hx; rcases List.mem_cons.1 hx with rfl | hx; omega; rw [List.mem_singleton] at hx; omega) (by simp) ⟨by omega, Nat.le_refl _⟩).keep' ((Fr.refl (fun k => k < (U3.alloc (.cells #[.int .i64 (a1 : Int), .int .i64 (c1 : Int)] 3)).heap.size) _).alloc (.cells #[.slice (some ⟨U3.heap.size, 0, none⟩) 2 2, .slice none 0 0] 26))
        rw [World.size_alloc] at b13
        have hl10 := z10'.lt
        have hl11 := z11'.lt
        clear al
        gi_wp2_with fail
        have hV : ((U3.alloc (.cells #[.int .i64 (a1 : Int), .int .i64 (c1 : Int)] 3)).alloc (.cells #[.slice (some ⟨U3.heap.size, 0, none⟩) 2 2, .slice none 0 0] 26)).heap.size = U3.heap.size + 2 := by simp only [World.size_alloc]
        generalize (U3.alloc (.cells #[.int .i64 (a1 : Int), .int .i64 (c1 : Int)] 3)).alloc (.cells #[.slice (some ⟨U3.heap.size, 0, none⟩) 2 2, .slice none 0 0] 26) = V at ID4 z10b z11b k11b b13 oSh hV ⊢
        have hV1 : U3.heap.size + 2 ≤ V.heap.size := Nat.le_of_eq hV.symm
        clear hV
        refine ⟨trivial, ?_⟩
        with_reducible refine (callsIn_wide.2 (every_t _ _ _)).mono ?_
        rintro e V3 ⟨rfl, p1, p2, hf3⟩
        have I6 := ID4.out.keep hf3 (fun k hk => by omega)
        have z10c := z10b.fr hf3 (by omega)
        have z11c := z11b.fr hf3 (by omega)
        have b13c := b13.keep hf3
        have oShc := oSh.keep' hf3
        have s3 := hf3.size
        have lp1 := p1.lt
        have lp2 := p2.lt
        clear ID ID4 z10 z11 z10' z11' z10b z11b k11 k11b b13 oSh hf3
        gi_wp2_with fail
        have sb : U3.heap.size + 1 < V3.heap.size := by omega
        obtain ⟨fX, hfX⟩ : ∃ f : Fin (a1 * c1) → RatL, f = fun x => canR (mmS (ea.map qOf) (eb.map qOf) b2 c1 x.val b2) := ⟨_, rfl⟩
        refine act_named (p := fun A => Code.wpIn _ _ _ _ _ A _) _ (fun A0 hA0 => ?_)
        refine wpIn_rangeFunc_ownH (F := Fence.wide) rfl (by omega) (gf := 103) (lb := #[.pointer (some ⟨V.heap.size, 0, none⟩), .pointer (some ⟨V.heap.size + 1, 0, none⟩)]) (by rw [hA0]; rfl) trivial (enter_of Tryz.func103 (by decide) rfl)
          (every_stops (fun k => k < V3.heap.size ∧ k ≠ U3.heap.size + 1) V3 V.heap.size (V.heap.size + 1) a1 c1 (by omega) (by omega) p1 p2 ⟨by omega, by omega⟩ ⟨by omega, by omega⟩) frK_t (frK_b (by intro k hk; exact hk.1)) (Below.refl _ _) (fun _ => rfl)
          (MMJ fX (U3.heap.size + 1) V3.heap.size (.slice (some ⟨U3.heap.size, 0, none⟩) 2 2) V3) (fun _ _ _ => False) (MMJ.own sb) (fun cc => fun _ _ _ _ h _ _ => h) ⟨_, b13c, Own.nil _ _ _ _, Fr.refl _ _⟩
          (fun x a _ => a = { tmps := (((A0.tmps.setIfInBounds 82 (.int .i64 (x.val / c1 : Nat))).setIfInBounds 83 (.int .i64 (x.val % c1 : Nat))).setIfInBounds 14 (.int .i64 (x.val / c1 : Nat))).setIfInBounds 15 (.int .i64 (x.val % c1 : Nat)), defers := [] }) (fun x a' => fun _ _ _ _ hs _ _ => hs) ?assign ?body ?done ?stop
        case assign =>
          intro l pre x W K' hI hK'
          subst hA0
          have HK := Lib.hid hK'
          clear hK'
          gi_wp2
          exact HK.out _ _ (keeps_fr _ (Fr.refl _ _)) (Fr.refl _ _) hI rfl
        case body =>
          rintro l pre x a' W hl' - ⟨v2, i1x, o2, i3⟩ rfl hpre
          subst hA0
          obtain ⟨hni, hnj⟩ := lt_row x.isLt
          have HFX := Lib.hid (show fX x = canR (mmS (ea.map qOf) (eb.map qOf) b2 c1 x.val b2) by rw [hfX])
          obtain ⟨ni, hnie⟩ : ∃ n, x.val / c1 = n := ⟨_, rfl⟩
          obtain ⟨nj, hnje⟩ : ∃ n, x.val % c1 = n := ⟨_, rfl⟩
          rw [hnie] at hni
          rw [hnje] at hnj
          have HNI := Lib.hid hnie
          have HNJ := Lib.hid hnje
          have I7 := Lib.hid (I6.keep i3 (fun k hk => ⟨by omega, by omega⟩))
          have z10d := z10c.fr i3 ⟨by omega, by omega⟩
          have z11d := z11c.fr i3 ⟨by omega, by omega⟩
          have sW := i3.size
          obtain ⟨A2, m2, k2, rfl⟩ := o2.form
          simp only [hnie, hnje]
          clear hfX hnie hnje
          gi_wp2_with fail
          refine ⟨trivial, ?_⟩
          with_reducible refine (CallsIn.inRound l (callsIn_wide.2 (int_0 W) : CallsIn Fence.wide 0 _ _ _ _ _)).mono ?_
          rintro e W2 ⟨s0, v3, v4, rfl, hs0, h0, hf⟩
          obtain ⟨⟨Q1, m3, k3, rfl⟩, ⟨Q2, m4, k4, rfl⟩⟩ := h0.out.form
          have al := fun R => (Fr.refl R W2).alloc (.cells #[.bool s0, .slice Q1 m3 k3, .slice Q2 m4 k4] 54)
          have b16 := Box3.new W2 54 (.bool s0) (.slice Q1 m3 k3) (.slice Q2 m4 k4)
          have G4 : Fr (fun k => k < W.heap.size) W _ := fr_then hf (al _)
          have rv := (h0.out.bd.keep (al _)).mon (T := fun k => W.heap.size ≤ k ∧ k ≠ W2.heap.size) fun k hk => ⟨hk.1, by omega⟩
          have s2 := hf.size
          have k10 := (z10d.fr G4 (by omega)).cell
          clear h0 al hf
          gi_wp2_with fail
          generalize W2.alloc (.cells #[.bool s0, .slice Q1 m3 k3, .slice Q2 m4 k4] 54) = W3 at b16 G4 rv k10 ⊢
          gi_loopw [86] (fun i wr => ∃ (k : Nat) (t : Bool) (w1 w2 : Value), k ≤ b2 ∧ i = .int .i64 k ∧ Box3 wr W2.heap.size 54 (.bool t) w1 w2 ∧ t = sg (mmS (ea.map qOf) (eb.map qOf) b2 c1 x.val k) ∧ RV (fun κ => W.heap.size ≤ κ ∧ κ ≠ W2.heap.size) wr w1 w2 (mmS (ea.map qOf) (eb.map qOf) b2 c1 x.val k) K ∧ Fr (fun κ => κ < W.heap.size) W wr) (fun i _ => b2 - (intOf i).toNat)
          case atStart => exact ⟨0, _, _, _, Nat.zero_le _, rfl, b16, hs0.out, rv.wide (by omega), G4⟩
          case round =>
            clear b16 G4 rv k10 hs0
            obtain ⟨k, t, w1, w2, hk, rfl, b16, ht, rv, G4⟩ := hrel
            obtain ⟨⟨Q3, ia, ja, rfl⟩, ⟨Q4, ib, jb, rfl⟩⟩ := rv.form
            by_cases hlt : k < b2
            case neg =>
              obtain rfl : k = b2 := by omega
              have i1' := i1x.keep G4
              have o2' := o2.keep' G4
              have HLn := Lib.hid (show ((pre.map fX).length + 1) * 56 ≤ 140737488355328 ∧ (pre.map fX).length + 1 ≤ 9223372036854775807 by
                have : a1 * k ≤ 1024 * 1024 := Nat.mul_le_mul ha2 hb4
                have : a1 * c1 ≤ 1024 * 1024 := Nat.mul_le_mul ha2 hc2
                rw [List.length_map]; omega)
              have lt2 := o2.lt
              have in2 := o2.in_
              have s4 := G4.size
              have e0 := i1'.c1
              have e1 := i1'.free 1
              have x16 := Box3.c0 b16
              have x17 := Box3.c1 b16
              have x18 := Box3.c2 b16
              have HT := Lib.hid ht
              have HRV := Lib.hid rv
              clear ht rv
              gi_wp2_with (refine wpListIn_push1 rzT rfl rfl (v := .slice A2 m2 k2) (y := fX x) (T := fun κ => W.heap.size ≤ κ) (cs := [.bool t, .slice Q3 ia ja, .slice Q4 ib jb]) rfl rfl o2' ⟨_, _, by rw [HFX.out, HT.out]; rfl, by rw [HFX.out]; exact (HRV.out.num.own.sl_fz).mono fun κ hκ => ⟨hκ.1.1, hκ.2⟩, by rw [HFX.out]; exact (HRV.out.den.own.sl_fz).mono fun κ hκ => ⟨hκ.1.1, hκ.2⟩⟩ (fun κ hκ _ => ⟨by omega, fun e => by have := lt2 κ e.symm; omega⟩) (fun κ hκ => by omega) HLn.out.1 HLn.out.2 ?_; intro v5 u2 ho hfr hat; obtain ⟨A3, n3, c3, rfl⟩ := ho.form; have q5 := i1'.fr hfr (fun e => by have := in2 _ e.symm; omega); have e2 := q5.c1; have e3 := q5.free 1)
              have F9 := fr_set1 u2 (U3.heap.size + 1) 1 (.slice A3 n3 c3)
              have kp := keeps_push V3.heap.size o2' hfr
              have G3 : Fr (fun κ => κ < V3.heap.size ∧ κ ≠ U3.heap.size + 1) W u2 := (G4.mono (T := fun κ => κ < V3.heap.size ∧ κ ≠ U3.heap.size + 1) fun κ hκ _ => hκ).comp hfr fun κ _ hκ => ⟨hκ, fun e => by have := in2 _ e.symm; omega⟩
              refine ⟨((keeps_fr _ G4).trans kp).trans (keeps_cell _ _ _ _), G3.comp F9 fun κ _ hκ => ⟨hκ, by omega⟩, ⟨_, q5.set1 _, ?_, (i3.trans G3).comp F9 fun κ _ hκ => ⟨hκ, by omega⟩⟩⟩
              rw [List.map_append, List.map_singleton]
              exact ho.past F9 (fun κ hκ => by omega)
            obtain ⟨q1, hq1⟩ : ∃ q, ni * b2 = q := ⟨_, rfl⟩
            obtain ⟨i1, hi1⟩ : ∃ q, q1 + k = q := ⟨_, rfl⟩
            obtain ⟨q2, hq2⟩ : ∃ q, k * c1 = q := ⟨_, rfl⟩
            obtain ⟨i2, hi2⟩ : ∃ q, q2 + nj = q := ⟨_, rfl⟩
            have hI1 : i1 < ea.length := by rw [HEA.out, ← hi1, ← hq1]; exact row_lt hni hlt
            have hI2 : i2 < eb.length := by rw [HEB.out, ← hi2, ← hq2]; exact row_lt hlt hnj
            have hEA : ea.length ≤ 1048576 := by rw [HEA.out]; exact Nat.mul_le_mul ha2 hb4
            have hEB : eb.length ≤ 1048576 := by rw [HEB.out]; exact Nat.mul_le_mul hb4 hc2
            have hw1 : IntKind.i64.wrap ((ni : Int) * (b2 : Int)) = (q1 : Int) := by rw [← Int.natCast_mul, hq1, IntKind.wrap_i64]; omega
            have hw2 : IntKind.i64.wrap ((q1 : Int) + (k : Int)) = (i1 : Int) := by rw [IntKind.wrap_i64]; omega
            have hw3 : IntKind.i64.wrap ((k : Int) * (c1 : Int)) = (q2 : Int) := by rw [← Int.natCast_mul, hq2, IntKind.wrap_i64]; omega
            have hw4 : IntKind.i64.wrap ((q2 : Int) + (nj : Int)) = (i2 : Int) := by rw [IntKind.wrap_i64]; omega
            have D := fun R => (Fr.refl R wr).drew
            have s4 := G4.size
            have I8 := (I7.out.keep G4 (fun κ hκ => by omega)).keep (D (fun _ => True)) (fun _ _ => trivial)
            have y10 := (z10d.fr G4 (by omega)).fr (D (fun _ => True)) trivial
            have y11 := (z11d.fr G4 (by omega)).fr (D (fun _ => True)) trivial
            have b16d := b16.fr (D (fun _ => True)) trivial
            have rvd := rv.fr (D _)
            obtain ⟨ag, P1, n1, e1, P2, n2, e2, hA1, hS1, g0, g1, g2, t1, t2⟩ := Rm_get I8.a2 hI1
            obtain ⟨af, P3, n3, e3, P4, n4, e4, hA2, hS2, g3, g4, g5, t3, t4⟩ := Rm_get I8.b2 hI2
            subst hA1
            subst hA2
            have hlx := HLA.out _ (List.getElem_mem hI1)
            have hly := HLB.out _ (List.getElem_mem hI2)
            have HST : Hid (mmS (ea.map qOf) (eb.map qOf) b2 c1 x.val (k + 1) = mmS (ea.map qOf) (eb.map qOf) b2 c1 x.val k + qOf ea[i1] * qOf eb[i2]) := Lib.hid (by
              rw [mmS_step, HNI.out, HNJ.out, hq1, hi1, hq2, hi2, List.getD_eq_getElem?_getD, List.getD_eq_getElem?_getD, List.getElem?_map, List.getElem?_map, List.getElem?_eq_getElem hI1, List.getElem?_eq_getElem hI2]
              rfl)
            have hKk := hK.out HN x.val k
            have hKk1 := hK.out HN x.val (k + 1)
            rw [HES.out, HET.out] at hKk hKk1
            have hB1 : Lens K (mmS (ea.map qOf) (eb.map qOf) b2 c1 x.val (k + 1)) := hKk1 hlt
            clear hKk hKk1
            generalize ea[i1] = x1 at g0 t1 t2 hlx HST
            generalize eb[i2] = y1 at g3 t3 t4 hly HST
            have PM := mul_h wr.drew x1.1 y1.1 _ _ _ _ _ _ _ _ _ _ L (ri_x t1 t2 hlx) (ri_x t3 t4 hly) hL1 hl
            obtain ⟨sx, hsx⟩ : ∃ s, x1.1 = s := ⟨_, rfl⟩
            obtain ⟨sy, hsy⟩ : ∃ s, y1.1 = s := ⟨_, rfl⟩
            rw [hsx] at g0 PM
            rw [hsy] at g3 PM
            have PP := Lib.hid PM
            have hWd : wr.drew.heap.size = wr.heap.size := rfl
            obtain ⟨b9, hb9⟩ : ∃ b, W2.heap.size = b := ⟨_, rfl⟩
            rw [hb9] at b16 b16d rvd rv
            have l16 := b16.lt
            have KS : ∀ v, Fr (fun κ => κ < wr.drew.heap.size) wr.drew v → v.cell? ⟨b9, 0, none⟩ = some (.bool t) ∧ v.cell? ⟨b9, 1, none⟩ = some (.slice Q3 ia ja) ∧ v.cell? ⟨b9, 2, none⟩ = some (.slice Q4 ib jb) ∧ v.cell? ⟨w.heap.size, 1, none⟩ = some (.slice (some ag) ea.length c') ∧ v.cell? ⟨w.heap.size + 1, 1, none⟩ = some (.slice (some af) eb.length d') ∧ v.cell? ⟨b10, 0, none⟩ = some (.int .i64 (b2 : Int)) ∧ v.cell? ⟨b11, 0, none⟩ = some (.int .i64 (c1 : Int)) ∧ v.cell? (ag.add (i1 * 3)) = some (.bool sx) ∧ v.cell? ⟨(ag.add (i1 * 3)).block, (ag.add (i1 * 3)).off + 1, none⟩ = some (.slice P1 n1 e1) ∧ v.cell? ⟨(ag.add (i1 * 3)).block, (ag.add (i1 * 3)).off + 2, none⟩ = some (.slice P2 n2 e2) ∧ v.cell? (af.add (i2 * 3)) = some (.bool sy) ∧ v.cell? ⟨(af.add (i2 * 3)).block, (af.add (i2 * 3)).off + 1, none⟩ = some (.slice P3 n3 e3) ∧ v.cell? ⟨(af.add (i2 * 3)).block, (af.add (i2 * 3)).off + 2, none⟩ = some (.slice P4 n4 e4) := fun v h =>
              ⟨(b16d.fr h l16).c0, (b16d.fr h l16).c1, (b16d.fr h l16).c2, (I8.x0.fr h (by omega)).c1, (I8.x1.fr h (by omega)).c1, (y10.fr h (by omega)).cell, (y11.fr h (by omega)).cell,
                h.cell g0 (World.block_lt_of_cell? _ _ g0), h.cell g1 (World.block_lt_of_cell? _ _ g1), h.cell g2 (World.block_lt_of_cell? _ _ g2), h.cell g3 (World.block_lt_of_cell? _ _ g3), h.cell g4 (World.block_lt_of_cell? _ _ g4), h.cell g5 (World.block_lt_of_cell? _ _ g5)⟩
            have S0 := KS _ (Fr.refl _ _)
            have HQ := Lib.hid (And.intro hq1 (And.intro hi1 (And.intro hq2 hi2)))
            have HRV := Lib.hid rvd
            have HT := Lib.hid ht
            clear hq1 hi1 hq2 hi2 PM t1 t2 t3 t4 g0 g1 g2 g3 g4 g5 hlx hly hsx hsy rv rvd ht
            have HB9 := Lib.hid hb9
            have l9b : W.heap.size ≤ b9 := by omega
            simp only [hb9]
            clear hb9
            gi_wp2_with fail
            refine wpTill.beginIn (fun v => v.cell? ⟨b9, 0, none⟩ = some (.bool t) ∧ v.cell? ⟨b9, 1, none⟩ = some (.slice Q3 ia ja) ∧ v.cell? ⟨b9, 2, none⟩ = some (.slice Q4 ib jb) ∧ v.cell? ⟨w.heap.size, 1, none⟩ = some (.slice (some ag) ea.length c') ∧ v.cell? ⟨w.heap.size + 1, 1, none⟩ = some (.slice (some af) eb.length d') ∧ v.cell? ⟨b10, 0, none⟩ = some (.int .i64 (b2 : Int)) ∧ v.cell? ⟨b11, 0, none⟩ = some (.int .i64 (c1 : Int)) ∧ v.cell? (ag.add (i1 * 3)) = some (.bool sx) ∧ v.cell? ⟨(ag.add (i1 * 3)).block, (ag.add (i1 * 3)).off + 1, none⟩ = some (.slice P1 n1 e1) ∧ v.cell? ⟨(ag.add (i1 * 3)).block, (ag.add (i1 * 3)).off + 2, none⟩ = some (.slice P2 n2 e2) ∧ v.cell? (af.add (i2 * 3)) = some (.bool sy) ∧ v.cell? ⟨(af.add (i2 * 3)).block, (af.add (i2 * 3)).off + 1, none⟩ = some (.slice P3 n3 e3) ∧ v.cell? ⟨(af.add (i2 * 3)).block, (af.add (i2 * 3)).off + 2, none⟩ = some (.slice P4 n4 e4)) 21 (by kernel_rfl) (by kernel_rfl) (by rintro ⟨_, _, h⟩; exact h) ?_
            change wpTill _ _ _ _ _ _ 22 _ _ _
            refine wpTill.take 0 (.agg #[.bool t, .slice Q3 ia ja, .slice Q4 ib jb]) rfl (by kernel_rfl) (by kernel_rfl) (fun _ _ _ h => h) S0 (by rfl) (fun u hu => by go_simp) ?_
            try simp only [Act.put, List.setIfInBounds_toArray, List.set_cons_zero, List.set_cons_succ]
            refine wpTill.take 1 (.pointer (some ⟨w.heap.size, 1, none⟩)) rfl (by kernel_rfl) (by kernel_rfl) (fun _ _ _ h => h) S0 (by rfl) (fun u hu => by go_simp) ?_
            try simp only [Act.put, List.setIfInBounds_toArray, List.set_cons_zero, List.set_cons_succ]
            refine wpTill.take 2 (.slice (some ag) ea.length c') rfl (by kernel_rfl) (by kernel_rfl) (fun _ _ _ h => h) S0 (by rfl) (fun u hu => by go_simp) ?_
            try simp only [Act.put, List.setIfInBounds_toArray, List.set_cons_zero, List.set_cons_succ]
            refine wpTill.take 3 (.int .i64 (ni : Int)) rfl (by kernel_rfl) (by kernel_rfl) (fun _ _ _ h => h) S0 (by rfl) (fun u hu => by go_simp) ?_
            try simp only [Act.put, List.setIfInBounds_toArray, List.set_cons_zero, List.set_cons_succ]
            refine wpTill.take 4 (.int .i64 (b2 : Int)) rfl (by kernel_rfl) (by kernel_rfl) (fun _ _ _ h => h) S0 (by rfl) (fun u hu => by go_simp) ?_
            try simp only [Act.put, List.setIfInBounds_toArray, List.set_cons_zero, List.set_cons_succ]
            refine wpTill.take 5 (.int .i64 (q1 : Int)) rfl (by kernel_rfl) (by kernel_rfl) (fun _ _ _ h => h) S0 (by rfl) (fun u hu => by go_simp) ?_
            try simp only [Act.put, List.setIfInBounds_toArray, List.set_cons_zero, List.set_cons_succ]
            refine wpTill.take 6 (.int .i64 (k : Int)) rfl (by kernel_rfl) (by kernel_rfl) (fun _ _ _ h => h) S0 (by rfl) (fun u hu => by go_simp) ?_
            try simp only [Act.put, List.setIfInBounds_toArray, List.set_cons_zero, List.set_cons_succ]
            refine wpTill.take 7 (.int .i64 (i1 : Int)) rfl (by kernel_rfl) (by kernel_rfl) (fun _ _ _ h => h) S0 (by rfl) (fun u hu => by go_simp) ?_
            try simp only [Act.put, List.setIfInBounds_toArray, List.set_cons_zero, List.set_cons_succ]
            refine wpTill.take 8 (.pointer (some (ag.add (i1 * 3)))) rfl (by kernel_rfl) (by kernel_rfl) (fun _ _ _ h => h) S0 (by rfl) (fun u hu => by go_simp) ?_
            try simp only [Act.put, List.setIfInBounds_toArray, List.set_cons_zero, List.set_cons_succ]
            refine wpTill.take 9 (.agg #[.bool sx, .slice P1 n1 e1, .slice P2 n2 e2]) rfl (by kernel_rfl) (by kernel_rfl) (fun _ _ _ h => h) S0 (by rfl) (fun u hu => by go_simp) ?_
            try simp only [Act.put, List.setIfInBounds_toArray, List.set_cons_zero, List.set_cons_succ]
            refine wpTill.take 10 (.pointer (some ⟨w.heap.size + 1, 1, none⟩)) rfl (by kernel_rfl) (by kernel_rfl) (fun _ _ _ h => h) S0 (by rfl) (fun u hu => by go_simp) ?_
            try simp only [Act.put, List.setIfInBounds_toArray, List.set_cons_zero, List.set_cons_succ]
            refine wpTill.take 11 (.slice (some af) eb.length d') rfl (by kernel_rfl) (by kernel_rfl) (fun _ _ _ h => h) S0 (by rfl) (fun u hu => by go_simp) ?_
            try simp only [Act.put, List.setIfInBounds_toArray, List.set_cons_zero, List.set_cons_succ]
            refine wpTill.take 12 (.int .i64 (k : Int)) rfl (by kernel_rfl) (by kernel_rfl) (fun _ _ _ h => h) S0 (by rfl) (fun u hu => by go_simp) ?_
            try simp only [Act.put, List.setIfInBounds_toArray, List.set_cons_zero, List.set_cons_succ]
            refine wpTill.take 13 (.int .i64 (c1 : Int)) rfl (by kernel_rfl) (by kernel_rfl) (fun _ _ _ h => h) S0 (by rfl) (fun u hu => by go_simp) ?_
            try simp only [Act.put, List.setIfInBounds_toArray, List.set_cons_zero, List.set_cons_succ]
            refine wpTill.take 14 (.int .i64 (q2 : Int)) rfl (by kernel_rfl) (by kernel_rfl) (fun _ _ _ h => h) S0 (by rfl) (fun u hu => by go_simp) ?_
            try simp only [Act.put, List.setIfInBounds_toArray, List.set_cons_zero, List.set_cons_succ]
            refine wpTill.take 15 (.int .i64 (nj : Int)) rfl (by kernel_rfl) (by kernel_rfl) (fun _ _ _ h => h) S0 (by rfl) (fun u hu => by go_simp) ?_
            try simp only [Act.put, List.setIfInBounds_toArray, List.set_cons_zero, List.set_cons_succ]
            refine wpTill.take 16 (.int .i64 (i2 : Int)) rfl (by kernel_rfl) (by kernel_rfl) (fun _ _ _ h => h) S0 (by rfl) (fun u hu => by go_simp) ?_
            try simp only [Act.put, List.setIfInBounds_toArray, List.set_cons_zero, List.set_cons_succ]
            refine wpTill.take 17 (.pointer (some (af.add (i2 * 3)))) rfl (by kernel_rfl) (by kernel_rfl) (fun _ _ _ h => h) S0 (by rfl) (fun u hu => by go_simp) ?_
            try simp only [Act.put, List.setIfInBounds_toArray, List.set_cons_zero, List.set_cons_succ]
            refine wpTill.take 18 (.agg #[.bool sy, .slice P3 n3 e3, .slice P4 n4 e4]) rfl (by kernel_rfl) (by kernel_rfl) (fun _ _ _ h => h) S0 (by rfl) (fun u hu => by go_simp) ?_
            try simp only [Act.put, List.setIfInBounds_toArray, List.set_cons_zero, List.set_cons_succ]
            refine wpTill.next 19 rfl (by kernel_rfl) (by rfl) (fun KC hKC => ?_)
            go_simp
            with_reducible refine PP.out.mono ?_
            rintro e u1 ⟨s8, v3, v4, rfl, hs8, h8, hf1⟩
            obtain ⟨⟨Q5, i5, j5, rfl⟩, ⟨Q6, i6, j6, rfl⟩⟩ := h8.out.form
            refine hKC _ _ (fun _ => KS _ hf1) ?_
            clear hKC KC
            try simp only [Act.put, List.setIfInBounds_toArray, List.set_cons_zero, List.set_cons_succ]
        
            refine wpTill.next 20 rfl (by kernel_rfl) (by rfl) (fun KC hKC => ?_)
            go_simp
            with_reducible refine (add_h _ t s8 (.slice Q3 ia ja) (.slice Q4 ib jb) (.slice Q5 i5 j5) (.slice Q6 i6 j6) _ _ _ _ _ _ K (HT.out ▸ (HRV.out.keep hf1).toRI (Nat.le_refl _)) (hs8.out ▸ h8.out.toRI hKL) (by omega) hK6).mono ?_
            rintro e u2 ⟨s9, v5, v6, rfl, hs9, h9, hf2⟩
            obtain ⟨⟨Q7, i7, j7, rfl⟩, ⟨Q8, i8, j8, rfl⟩⟩ := h9.out.form
            have G2 : Fr (fun κ => κ < wr.drew.heap.size) wr.drew u2 := fr_then hf1 hf2
            refine hKC _ _ (fun _ => KS _ G2) ?_
            clear hKC KC
            try simp only [Act.put, List.setIfInBounds_toArray, List.set_cons_zero, List.set_cons_succ]
        
            have j9 := b16d.fr G2 l16
            have d0 := j9.c0
            have d1 := j9.c1
            have d2 := j9.c2
            have d3 := j9.free 0
            have d4 := j9.free 1
            have d5 := j9.free 2
            have s5 := hf1.size
            clear PP S0 KS
            refine wpTill.next 21 rfl (by kernel_rfl) (by rfl) (fun KC hKC => ?_)
            go_simp
            refine hKC _ _ (no_wait (by kernel_rfl)) ?_
            clear hKC KC
            try simp only [Act.put, List.setIfInBounds_toArray, List.set_cons_zero, List.set_cons_succ]
        
            refine wpTill.done (by kernel_rfl) ?_
            have F9 := fr_set3 u2 b9 (.bool s9) (.slice Q7 i7 j7) (.slice Q8 i8 j8)
            have k9 := j9.set3 (.bool s9) (.slice Q7 i7 j7) (.slice Q8 i8 j8)
            have GG : Fr (fun κ => κ < W.heap.size) W (((u2.setCell ⟨b9, 0, none⟩ (.bool s9)).setCell ⟨b9, 1, none⟩ (.slice Q7 i7 j7)).setCell ⟨b9, 2, none⟩ (.slice Q8 i8 j8)) := ((fr_then G4.drew (G2.mono fun κ _ hκ => hκ)).comp F9 (R := fun κ => κ < W.heap.size) fun κ _ hκ => ⟨hκ, by omega⟩)
            have hv := h9.out.past F9 (fun κ hκ => by omega)
            rw [← HST.out] at hv
            have hv2 := (hv.mon (T := fun κ => W.heap.size ≤ κ ∧ κ ≠ b9) fun κ hκ => ⟨by omega, by omega⟩).sizes hB1.1 hB1.2
            have hs9o := hs9.out
            rw [← HST.out] at hs9o
            have HS9 := Lib.hid hs9o
            clear d0 d1 d2 d3 d4 d5 F9 hv hs9o
            gi_wp2_with fail
            go_roundw
            case rel =>
              exact ⟨k + 1, _, _, _, by omega, by go_num, k9, HS9.out, hv2, GG⟩
            case measure => first | (simp [intOf]; done) | (simp [intOf]; omega)
        case done =>
          rintro D ys W hD rfl ⟨v2, i1, o2, i3⟩ hK
          subst hA0
          obtain ⟨A2, n2, c2, rfl⟩ := o2.form
          have I8 := I6.keep i3 (fun k hk => ⟨by omega, by omega⟩)
          have x2 := I8.x2
          have o1 := oShc.fr (i3.mono fun k _ hk => ⟨by omega, by omega⟩)
          have c0 := i1.c0
          have c1' := i1.c1
          have d0 := x2.c0
          have d1 := x2.c1
          have f0 := x2.free 0
          have f1 := x2.free 1
          have F7 := fr_put2 W (w.heap.size + 2) (.slice (some ⟨U3.heap.size, 0, none⟩) 2 2) (.slice A2 n2 c2)
          have z2 := x2.set2 (.slice (some ⟨U3.heap.size, 0, none⟩) 2 2) (.slice A2 n2 c2)
          have F8 := I8.fr.comp F7 (R := fun k => k < w.heap.size) fun k _ hk => ⟨hk, by omega⟩
          have q1 := o1.past F7 fun k hk => by omega
          have q2 := o2.past F7 fun k hk => by omega
          rw [hfX, fin_map (fun n => canR (mmS (ea.map qOf) (eb.map qOf) b2 c1 n b2)), show (List.range (a1 * c1)).map (fun n => canR (mmS (ea.map qOf) (eb.map qOf) b2 c1 n b2)) = (mmL (ea.map qOf) (eb.map qOf) (sha.getD 0 0).toNat (sha.getD 1 0).toNat (shb.getD 1 0).toNat).map canR by rw [HES.out, HET.out, mmL, List.map_map]; rfl] at q2
          rw [show [(a1 : Int), (c1 : Int)] = [sha.getD 0 0, shb.getD 1 0] by rw [HES.out, HET.out]; rfl] at q1
          gi_wp2
          generalize hWf : (W.setCell ⟨w.heap.size + 2, 0, none⟩ (.slice (some ⟨U3.heap.size, 0, none⟩) 2 2)).setCell ⟨w.heap.size + 2, 1, none⟩ (.slice A2 n2 c2) = Wf at z2 F8 q1 q2 ⊢
          have hK2 : Wf.heap[D]? = some (.deferred (some [])) := by
            rw [← hWf]
            exact (KeepsOthers.setCell _ ⟨w.heap.size + 2, 1, none⟩ _).same D _ ((KeepsOthers.setCell W ⟨w.heap.size + 2, 0, none⟩ _).same D _ hK rfl) rfl
          have gr := grownBy_putObj' Wf D (.deferred none)
          have hrw : ∀ r, some D = some r → 0 ≤ r ∧ ∃ o : Obj, Wf.heap[r]? = some o ∧ o.isCells = false := fun r e => by cases e; exact ⟨Nat.zero_le _, _, hK2, rfl⟩
          exact leaves_mark hK2 rfl (results_mm rfl rfl (grown_cells gr hrw z2)) ⟨_, _, _, _, _, _, by rw [HN]; rfl, fun h => absurd HN h, fun _ => ⟨(q1.turn (fun _ _ _ h => Kd.int_any h) gr hrw).mono fun k hk => by omega, (q2.turn (fun _ _ _ => RZ_cl) gr hrw).mono fun k hk => by omega⟩, F8.comp (Fr.of_grown gr) fun k hk hk' => ⟨hk', fun e => by cases e; omega⟩⟩ rfl
        case stop => rintro D cc pre W hD hpre h hK; exact h.elim
end Go.Proofs.YtlppcfeimpcbjaaGreat
