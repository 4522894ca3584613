import Derived.Test.YtlppcfeimpcbjaaGreatFoldF
set_option linter.unusedSimpArgs false
set_option linter.unusedVariables false

/- fluxionref10.MatMul: printed by gen_fol.py. -/
namespace Go.Proofs.YtlppcfeimpcbjaaGreat
open Go.RowKit Go.Shelf
attribute [local go_sem] Oper.semAt_some

/-- the dimensions of a matrix of the document's -/
theorem two_dimsQ {sh : List Int} {n : Nat} (h1 : mayS sh = 0) (h2 : (n : Int) = pr sh) (hl : sh.length = 2) : ∃ a b : Nat, sh = [(a : Int), (b : Int)] ∧ 1 ≤ a ∧ 1 ≤ b ∧ a ≤ 1024 ∧ b ≤ 1024 ∧ n = a * b := by
  obtain ⟨_, h3, h4⟩ := mayS_ok h1
  match sh, hl with
  | [x, y], _ =>
    have hx := h3 x (by simp)
    have hy := h3 y (by simp)
    obtain ⟨a, rfl⟩ : ∃ a : Nat, x = a := ⟨x.toNat, by omega⟩
    obtain ⟨b, rfl⟩ : ∃ b : Nat, y = b := ⟨y.toNat, by omega⟩
    rw [pr_two] at h2 h4
    have h5 : a * b ≤ 1024 := by omega
    have ha : a ≤ a * b := Nat.le_mul_of_pos_right a (by omega)
    have hb : b ≤ a * b := Nat.le_mul_of_pos_left b (by omega)
    exact ⟨a, b, rfl, by omega, by omega, by omega, by omega, by omega⟩
/-- What lies in memory from the beginning on. -/
structure RMI (w : World) (va vea vb veb : Value) (sha : List Int) (qa : List Rat) (shb : List Int) (qb : List Rat) (K : Nat) (W : World) : Prop where
  a1 : Sl Im (fun k => k < w.heap.size) W va sha
  a2 : Sl (Rk K) (fun k => k < w.heap.size) W vea qa
  b1 : Sl Im (fun k => k < w.heap.size) W vb shb
  b2 : Sl (Rk K) (fun k => k < w.heap.size) W veb qb
  x0 : Box2 W w.heap.size 36 va vea
  x1 : Box2 W (w.heap.size + 1) 36 vb veb
  x2 : Box2 W (w.heap.size + 2) 36 (.slice none 0 0) (.slice none 0 0)
  fr : Fr (fun k => k < w.heap.size) w W
theorem RMI.keep {w : World} {va vea vb veb : Value} {sha shb : List Int} {qa qb : List Rat} {K : Nat} {W W' : World} (h : RMI w va vea vb veb sha qa shb qb K W) {R : Nat → Prop} (hf : Fr R W W') (hR : ∀ k, k < w.heap.size + 3 → R k) : RMI w va vea vb veb sha qa shb qb K W' :=
  ⟨h.a1.fr (hf.mono fun k _ hk => hR k (by omega)), h.a2.fr (hf.mono fun k _ hk => hR k (by omega)), h.b1.fr (hf.mono fun k _ hk => hR k (by omega)), h.b2.fr (hf.mono fun k _ hk => hR k (by omega)),
    h.x0.fr hf (hR _ (by omega)), h.x1.fr hf (hR _ (by omega)), h.x2.fr hf (hR _ (by omega)), h.fr.comp hf fun k _ hk => ⟨hk, hR k (by omega)⟩⟩
theorem RMI.lt {w : World} {va vea vb veb : Value} {sha shb : List Int} {qa qb : List Rat} {K : Nat} {W : World} (h : RMI w va vea vb veb sha qa shb qb K W) : w.heap.size + 3 ≤ W.heap.size := h.x2.lt

set_option maxRecDepth 100000 in
set_option maxHeartbeats 16000000 in
theorem rmm_t {S T U V : Nat → Prop} (w : World) (va vea vb veb : Value) (sha shb : List Int) (qa qb : List Rat) (K M : Nat) (r : Int) (hr : Hid (rmE sha shb = r)) (ha : Sl Im S w va sha) (hea : Sl (Rk K) T w vea qa) (hb : Sl Im U w vb shb) (heb : Sl (Rk K) V w veb qb)
    (hma : Hid (mayS sha = 0 ∧ (qa.length : Int) = pr sha)) (hmb : Hid (mayS shb = 0 ∧ (qb.length : Int) = pr shb)) (hK1 : 1 ≤ K) (hKM : 2 * K ≤ M) (h6 : 6 ≤ M) (hM : M ≤ 104857600)
    (hBnd : Hid (r = 0 → ∀ n k, k ≤ (sha.getD 1 0).toNat → (dg DB (mmS qa qb (sha.getD 1 0).toNat (shb.getD 1 0).toNat n k).num.natAbs).length ≤ M ∧ (dg DB (mmS qa qb (sha.getD 1 0).toNat (shb.getD 1 0).toNat n k).den).length ≤ M)) :
    Calls Tryz.prog 22 #[.agg #[va, vea], .agg #[vb, veb]] w (RefO w [sha.getD 0 0, shb.getD 1 0] (mmL qa qb (sha.getD 0 0).toNat (sha.getD 1 0).toNat (shb.getD 1 0).toNat) M r) := by
  obtain ⟨A, c, rfl, _, _, _⟩ := ha.slice
  obtain ⟨A', c', rfl, _, _, hlea⟩ := hea.slice
  obtain ⟨B, d, rfl, _, _, _⟩ := hb.slice
  obtain ⟨B', d', rfl, _, _, hleb⟩ := heb.slice
  have F0 := fun R => (((Fr.refl R w).alloc (.cells #[.slice A sha.length c, .slice A' qa.length c'] 36)).alloc (.cells #[.slice B shb.length d, .slice B' qb.length d'] 36)).alloc (.cells #[.slice none 0 0, .slice none 0 0] 36)
  have x0 := ((Box2.new w 36 (.slice A sha.length c) (.slice A' qa.length c')).alloc (.cells #[.slice B shb.length d, .slice B' qb.length d'] 36)).alloc (.cells #[.slice none 0 0, .slice none 0 0] 36)
  have x1 := (Box2.new (w.alloc (.cells #[.slice A sha.length c, .slice A' qa.length c'] 36)) 36 (.slice B shb.length d) (.slice B' qb.length d')).alloc (.cells #[.slice none 0 0, .slice none 0 0] 36)
  have x2 := Box2.new ((w.alloc (.cells #[.slice A sha.length c, .slice A' qa.length c'] 36)).alloc (.cells #[.slice B shb.length d, .slice B' qb.length d'] 36)) 36 (.slice none 0 0) (.slice none 0 0)
  simp only [World.size_alloc] at x1 x2
  have I0 : RMI w (.slice A sha.length c) (.slice A' qa.length c') (.slice B shb.length d) (.slice B' qb.length d') sha qa shb qb K _ := ⟨ha.up Im_pos (Nat.le_refl _) (F0 _), hea.up (Rk_pos K) (Nat.le_refl _) (F0 _), hb.up Im_pos (Nat.le_refl _) (F0 _), heb.up (Rk_pos K) (Nat.le_refl _) (F0 _), x0, x1, x2, F0 _⟩
  have ID := Lib.hid (I0.keep ((Fr.refl (fun _ => True) _).drew) fun _ _ => trivial)
  clear ha hea hb heb F0 x0 x1 x2 I0
  go_enter Tryz.func22, Tryz.ntmps22
  go_wp2_with fail
  generalize (((w.alloc (.cells #[.slice A sha.length c, .slice A' qa.length c'] 36)).alloc (.cells #[.slice B shb.length d, .slice B' qb.length d'] 36)).alloc (.cells #[.slice none 0 0, .slice none 0 0] 36)) = W0 at ID ⊢
  have ltd : w.heap.size + 3 ≤ W0.drew.heap.size := ID.out.lt
  by_cases h2 : sha.length = 2 ∧ shb.length = 2 ∧ sha.getD 1 0 = shb.getD 0 0
  case neg =>
    by_cases h3 : sha.length = 2
    · by_cases h4 : shb.length = 2
      · have hne : sha.getD 1 0 ≠ shb.getD 0 0 := fun h => h2 ⟨h3, h4, h⟩
        obtain ⟨ag, hA, g1, _⟩ := Kd.int_cell ID.out.a1 (i := 1) (by omega)
        obtain ⟨af, hB, g2, _⟩ := Kd.int_cell ID.out.b1 (i := 0) (by omega)
        rw [getI_at (by omega), getI_at (by omega)] at hne
        rw [addr_zero] at g2
        generalize sha[1] = x1 at g1 hne
        generalize shb[0] = y0 at g2 hne
        replace g1 : W0.drew.cell? ⟨ag.block, ag.off + 1, none⟩ = some (.int .i64 x1) := g1
        subst hA
        subst hB
        refine wpTill.begin (fun _ => True) 20 (by kernel_rfl) ?_
        change wpTill _ _ _ _ _ _ 21 _ _ _
        refine wpTill.free (jj := 20) (m := 0) [(0, Fact.eq (.pointer (some ⟨w.heap.size, 0, none⟩))),
        (1, Fact.eq (.slice (some ag) sha.length c)),
        (2, Fact.eq (.int .i64 sha.length)),
        (3, Fact.eq (.bool false)),
        (4, Fact.eq (.bool false)),
        (5, Fact.eq (.pointer (some ⟨w.heap.size + 1, 0, none⟩))),
        (6, Fact.eq (.slice (some af) shb.length d)),
        (7, Fact.eq (.int .i64 shb.length)),
        (8, Fact.eq (.bool false)),
        (9, Fact.eq (.bool false)),
        (10, Fact.eq (.bool false)),
        (11, Fact.eq (.pointer (some ⟨w.heap.size, 0, none⟩))),
        (12, Fact.eq (.slice (some ag) sha.length c)),
        (13, Fact.eq (.pointer (some ⟨ag.block, ag.off + 1, none⟩))),
        (14, Fact.eq (.int .i64 x1)),
        (15, Fact.eq (.pointer (some ⟨w.heap.size + 1, 0, none⟩))),
        (16, Fact.eq (.slice (some af) shb.length d)),
        (17, Fact.eq (.pointer (some af))),
        (18, Fact.eq (.int .i64 y0)),
        (19, Fact.eq (.bool true)),
        (20, Fact.eq (.bool true))] [] [0, 1, 3, 7, 15, 31, 63, 127, 255, 511, 1023, 2047, 4095, 8191, 16383, 2047, 34815, 100351, 231423, 524287, 1048575] [] ?_ (by kernel_rfl) (by kernel_rfl) (by kernel_rfl) [(0, some 14), (1, some 15), (2, some 16), (3, some 17), (4, some 18), (5, some 19), (6, some 20), (7, some 21), (8, some 22), (9, some 23), (10, some 24), (11, some 25), (12, some 26), (13, some 27), (14, some 28), (15, some 29), (16, some 30), (17, some 31), (18, some 32), (19, some 33), (20, some 34)] (by kernel_rfl) ?hA ?hQ (fun _ _ => trivial) (by kernel_rfl) ?steps ?looses ?cont
        case hQ => exact fun _ _ _ _ _ h => h
        case hA =>
          intro vs
          simp only [fillD, List.foldl_cons, List.foldl_nil, Act.put, List.setIfInBounds_toArray, List.set_cons_zero, List.set_cons_succ]
          exact rfl
        case steps =>
          refine ⟨?_, ?_, ?_, ?_, ?_, ?_, ?_, ?_, ?_, ?_, ?_, ?_, ?_, ?_, ?_, ?_, ?_, ?_, ?_, ?_, ?_, trivial⟩
          · rintro vs u ⟨hV0, hV1, hV2, hV3, hV4, hV5, hV6, hV7, hV8, hV9, hV10, hV11, hV12, hV13, hV14, hV15, hV16, hV17, hV18, hV19, hV20, -⟩ G
            exact stepAt.pure (v := .pointer (some ⟨w.heap.size, 0, none⟩)) rfl rfl (by go_simp) rfl
          · rintro vs u ⟨hV0, hV1, hV2, hV3, hV4, hV5, hV6, hV7, hV8, hV9, hV10, hV11, hV12, hV13, hV14, hV15, hV16, hV17, hV18, hV19, hV20, -⟩ G
            have o0 := (ID.out.x0.fr G (by omega)).c0
            have eV0 : vs 0 = .pointer (some ⟨w.heap.size, 0, none⟩) := hV0 rfl
            exact stepAt.pure (v := .slice (some ag) sha.length c) rfl rfl (by simp only [eV0]; go_simp) rfl
          · rintro vs u ⟨hV0, hV1, hV2, hV3, hV4, hV5, hV6, hV7, hV8, hV9, hV10, hV11, hV12, hV13, hV14, hV15, hV16, hV17, hV18, hV19, hV20, -⟩ G
            have eV1 : vs 1 = .slice (some ag) sha.length c := hV1 rfl
            exact stepAt.pure (v := .int .i64 sha.length) rfl rfl (by simp only [eV1]; go_simp) rfl
          · rintro vs u ⟨hV0, hV1, hV2, hV3, hV4, hV5, hV6, hV7, hV8, hV9, hV10, hV11, hV12, hV13, hV14, hV15, hV16, hV17, hV18, hV19, hV20, -⟩ G
            have eV2 : vs 2 = .int .i64 sha.length := hV2 rfl
            exact stepAt.pure (v := .bool false) rfl rfl (by simp only [eV2]; go_simp <;> omega) rfl
          · rintro vs u ⟨hV0, hV1, hV2, hV3, hV4, hV5, hV6, hV7, hV8, hV9, hV10, hV11, hV12, hV13, hV14, hV15, hV16, hV17, hV18, hV19, hV20, -⟩ G
            have eV3 : vs 3 = .bool false := hV3 rfl
            exact stepAt.pure (v := .bool false) rfl rfl (by simp only [eV3]; go_simp) rfl
          · rintro vs u ⟨hV0, hV1, hV2, hV3, hV4, hV5, hV6, hV7, hV8, hV9, hV10, hV11, hV12, hV13, hV14, hV15, hV16, hV17, hV18, hV19, hV20, -⟩ G
            exact stepAt.pure (v := .pointer (some ⟨w.heap.size + 1, 0, none⟩)) rfl (wanted_by (g := 4) (b := false) (t := 18) rfl (by kernel_rfl) (congrArg some (show vs 4 = _ from hV4 rfl))) (by go_simp) rfl
          · rintro vs u ⟨hV0, hV1, hV2, hV3, hV4, hV5, hV6, hV7, hV8, hV9, hV10, hV11, hV12, hV13, hV14, hV15, hV16, hV17, hV18, hV19, hV20, -⟩ G
            have o0 := (ID.out.x1.fr G (by omega)).c0
            have eV5 : vs 5 = .pointer (some ⟨w.heap.size + 1, 0, none⟩) := hV5 rfl
            exact stepAt.pure (v := .slice (some af) shb.length d) rfl (wanted_by (g := 4) (b := false) (t := 18) rfl (by kernel_rfl) (congrArg some (show vs 4 = _ from hV4 rfl))) (by simp only [eV5]; go_simp) rfl
          · rintro vs u ⟨hV0, hV1, hV2, hV3, hV4, hV5, hV6, hV7, hV8, hV9, hV10, hV11, hV12, hV13, hV14, hV15, hV16, hV17, hV18, hV19, hV20, -⟩ G
            have eV6 : vs 6 = .slice (some af) shb.length d := hV6 rfl
            exact stepAt.pure (v := .int .i64 shb.length) rfl (wanted_by (g := 4) (b := false) (t := 18) rfl (by kernel_rfl) (congrArg some (show vs 4 = _ from hV4 rfl))) (by simp only [eV6]; go_simp) rfl
          · rintro vs u ⟨hV0, hV1, hV2, hV3, hV4, hV5, hV6, hV7, hV8, hV9, hV10, hV11, hV12, hV13, hV14, hV15, hV16, hV17, hV18, hV19, hV20, -⟩ G
            have eV7 : vs 7 = .int .i64 shb.length := hV7 rfl
            exact stepAt.pure (v := .bool false) rfl (wanted_by (g := 4) (b := false) (t := 18) rfl (by kernel_rfl) (congrArg some (show vs 4 = _ from hV4 rfl))) (by simp only [eV7]; go_simp <;> omega) rfl
          · rintro vs u ⟨hV0, hV1, hV2, hV3, hV4, hV5, hV6, hV7, hV8, hV9, hV10, hV11, hV12, hV13, hV14, hV15, hV16, hV17, hV18, hV19, hV20, -⟩ G
            have eV4 : vs 4 = .bool false := hV4 rfl
            have eV8 : vs 8 = .bool false := hV8 rfl
            exact stepAt.pure (v := .bool false) rfl rfl (by simp only [eV4, eV8]; go_simp) rfl
          · rintro vs u ⟨hV0, hV1, hV2, hV3, hV4, hV5, hV6, hV7, hV8, hV9, hV10, hV11, hV12, hV13, hV14, hV15, hV16, hV17, hV18, hV19, hV20, -⟩ G
            have eV9 : vs 9 = .bool false := hV9 rfl
            exact stepAt.pure (v := .bool false) rfl rfl (by simp only [eV9]; go_simp) rfl
          · rintro vs u ⟨hV0, hV1, hV2, hV3, hV4, hV5, hV6, hV7, hV8, hV9, hV10, hV11, hV12, hV13, hV14, hV15, hV16, hV17, hV18, hV19, hV20, -⟩ G
            exact stepAt.pure (v := .pointer (some ⟨w.heap.size, 0, none⟩)) rfl (wanted_by (g := 10) (b := false) (t := 24) rfl (by kernel_rfl) (congrArg some (show vs 10 = _ from hV10 rfl))) (by go_simp) rfl
          · rintro vs u ⟨hV0, hV1, hV2, hV3, hV4, hV5, hV6, hV7, hV8, hV9, hV10, hV11, hV12, hV13, hV14, hV15, hV16, hV17, hV18, hV19, hV20, -⟩ G
            have o0 := (ID.out.x0.fr G (by omega)).c0
            have eV11 : vs 11 = .pointer (some ⟨w.heap.size, 0, none⟩) := hV11 rfl
            exact stepAt.pure (v := .slice (some ag) sha.length c) rfl (wanted_by (g := 10) (b := false) (t := 24) rfl (by kernel_rfl) (congrArg some (show vs 10 = _ from hV10 rfl))) (by simp only [eV11]; go_simp) rfl
          · rintro vs u ⟨hV0, hV1, hV2, hV3, hV4, hV5, hV6, hV7, hV8, hV9, hV10, hV11, hV12, hV13, hV14, hV15, hV16, hV17, hV18, hV19, hV20, -⟩ G
            have eV12 : vs 12 = .slice (some ag) sha.length c := hV12 rfl
            exact stepAt.pure (v := .pointer (some ⟨ag.block, ag.off + 1, none⟩)) rfl (wanted_by (g := 10) (b := false) (t := 24) rfl (by kernel_rfl) (congrArg some (show vs 10 = _ from hV10 rfl))) (by simp only [eV12]; go_simp) rfl
          · rintro vs u ⟨hV0, hV1, hV2, hV3, hV4, hV5, hV6, hV7, hV8, hV9, hV10, hV11, hV12, hV13, hV14, hV15, hV16, hV17, hV18, hV19, hV20, -⟩ G
            have o0 := G.cell g1 (World.block_lt_of_cell? _ _ g1)
            have eV13 : vs 13 = .pointer (some ⟨ag.block, ag.off + 1, none⟩) := hV13 rfl
            exact stepAt.pure (v := .int .i64 x1) rfl (wanted_by (g := 10) (b := false) (t := 24) rfl (by kernel_rfl) (congrArg some (show vs 10 = _ from hV10 rfl))) (by simp only [eV13]; go_simp) rfl
          · rintro vs u ⟨hV0, hV1, hV2, hV3, hV4, hV5, hV6, hV7, hV8, hV9, hV10, hV11, hV12, hV13, hV14, hV15, hV16, hV17, hV18, hV19, hV20, -⟩ G
            exact stepAt.pure (v := .pointer (some ⟨w.heap.size + 1, 0, none⟩)) rfl (wanted_by (g := 10) (b := false) (t := 24) rfl (by kernel_rfl) (congrArg some (show vs 10 = _ from hV10 rfl))) (by go_simp) rfl
          · rintro vs u ⟨hV0, hV1, hV2, hV3, hV4, hV5, hV6, hV7, hV8, hV9, hV10, hV11, hV12, hV13, hV14, hV15, hV16, hV17, hV18, hV19, hV20, -⟩ G
            have o0 := (ID.out.x1.fr G (by omega)).c0
            have eV15 : vs 15 = .pointer (some ⟨w.heap.size + 1, 0, none⟩) := hV15 rfl
            exact stepAt.pure (v := .slice (some af) shb.length d) rfl (wanted_by (g := 10) (b := false) (t := 24) rfl (by kernel_rfl) (congrArg some (show vs 10 = _ from hV10 rfl))) (by simp only [eV15]; go_simp) rfl
          · rintro vs u ⟨hV0, hV1, hV2, hV3, hV4, hV5, hV6, hV7, hV8, hV9, hV10, hV11, hV12, hV13, hV14, hV15, hV16, hV17, hV18, hV19, hV20, -⟩ G
            have eV16 : vs 16 = .slice (some af) shb.length d := hV16 rfl
            exact stepAt.pure (v := .pointer (some af)) rfl (wanted_by (g := 10) (b := false) (t := 24) rfl (by kernel_rfl) (congrArg some (show vs 10 = _ from hV10 rfl))) (by simp only [eV16]; go_simp) rfl
          · rintro vs u ⟨hV0, hV1, hV2, hV3, hV4, hV5, hV6, hV7, hV8, hV9, hV10, hV11, hV12, hV13, hV14, hV15, hV16, hV17, hV18, hV19, hV20, -⟩ G
            have o0 := G.cell g2 (World.block_lt_of_cell? _ _ g2)
            have eV17 : vs 17 = .pointer (some af) := hV17 rfl
            exact stepAt.pure (v := .int .i64 y0) rfl (wanted_by (g := 10) (b := false) (t := 24) rfl (by kernel_rfl) (congrArg some (show vs 10 = _ from hV10 rfl))) (by simp only [eV17]; go_simp) rfl
          · rintro vs u ⟨hV0, hV1, hV2, hV3, hV4, hV5, hV6, hV7, hV8, hV9, hV10, hV11, hV12, hV13, hV14, hV15, hV16, hV17, hV18, hV19, hV20, -⟩ G
            have eV14 : vs 14 = .int .i64 x1 := hV14 rfl
            have eV18 : vs 18 = .int .i64 y0 := hV18 rfl
            exact stepAt.pure (v := .bool true) rfl (wanted_by (g := 10) (b := false) (t := 24) rfl (by kernel_rfl) (congrArg some (show vs 10 = _ from hV10 rfl))) (by simp only [eV14, eV18]; go_simp <;> omega) rfl
          · rintro vs u ⟨hV0, hV1, hV2, hV3, hV4, hV5, hV6, hV7, hV8, hV9, hV10, hV11, hV12, hV13, hV14, hV15, hV16, hV17, hV18, hV19, hV20, -⟩ G
            have eV10 : vs 10 = .bool false := hV10 rfl
            have eV19 : vs 19 = .bool true := hV19 rfl
            exact stepAt.pure (v := .bool true) rfl rfl (by simp only [eV10, eV19]; go_simp) rfl
        case looses =>
          exact trivial
        case cont =>
          rintro vs u ⟨hV0, hV1, hV2, hV3, hV4, hV5, hV6, hV7, hV8, hV9, hV10, hV11, hV12, hV13, hV14, hV15, hV16, hV17, hV18, hV19, hV20, -⟩ G
          have eV0 : vs 0 = .pointer (some ⟨w.heap.size, 0, none⟩) := hV0
          have eV1 : vs 1 = .slice (some ag) sha.length c := hV1
          have eV2 : vs 2 = .int .i64 sha.length := hV2
          have eV3 : vs 3 = .bool false := hV3
          have eV4 : vs 4 = .bool false := hV4
          have eV5 : vs 5 = .pointer (some ⟨w.heap.size + 1, 0, none⟩) := hV5
          have eV6 : vs 6 = .slice (some af) shb.length d := hV6
          have eV7 : vs 7 = .int .i64 shb.length := hV7
          have eV8 : vs 8 = .bool false := hV8
          have eV9 : vs 9 = .bool false := hV9
          have eV10 : vs 10 = .bool false := hV10
          have eV11 : vs 11 = .pointer (some ⟨w.heap.size, 0, none⟩) := hV11
          have eV12 : vs 12 = .slice (some ag) sha.length c := hV12
          have eV13 : vs 13 = .pointer (some ⟨ag.block, ag.off + 1, none⟩) := hV13
          have eV14 : vs 14 = .int .i64 x1 := hV14
          have eV15 : vs 15 = .pointer (some ⟨w.heap.size + 1, 0, none⟩) := hV15
          have eV16 : vs 16 = .slice (some af) shb.length d := hV16
          have eV17 : vs 17 = .pointer (some af) := hV17
          have eV18 : vs 18 = .int .i64 y0 := hV18
          have eV19 : vs 19 = .bool true := hV19
          have eV20 : vs 20 = .bool true := hV20
          simp only [eV0, eV1, eV2, eV3, eV4, eV5, eV6, eV7, eV8, eV9, eV10, eV11, eV12, eV13, eV14, eV15, eV16, eV17, eV18, eV19, eV20]
          clear eV0 eV1 eV2 eV3 eV4 eV5 eV6 eV7 eV8 eV9 eV10 eV11 eV12 eV13 eV14 eV15 eV16 eV17 eV18 eV19 eV20 hV0 hV1 hV2 hV3 hV4 hV5 hV6 hV7 hV8 hV9 hV10 hV11 hV12 hV13 hV14 hV15 hV16 hV17 hV18 hV19 hV20
          refine wpTill.done (by kernel_rfl) ?_
          have HN : r = 13 := hr.out.symm.trans (rmE_13 h2)
          have h0 : (13 : Int) ≠ 0 := by decide
          have I3 := Lib.hid (ID.out.keep G (fun k hk => by omega))
          have x2 := I3.out.x2
          have d0 := x2.c0
          have d1 := x2.c1
          have f0 := x2.free 0
          have f1 := x2.free 1
          have F9 := fr_put2 u (w.heap.size + 2) (.slice none 0 0) (.slice none 0 0)
          have y2 := x2.set2 (.slice none 0 0) (.slice none 0 0)
          have F8 := I3.out.fr.comp F9 (R := fun k => k < w.heap.size) fun k _ hk => ⟨hk, by omega⟩
          go_wp2_with fail
          refine bodyPost_ret (results_cell2_tmp rfl rfl y2 Tryz.underlying36 tt2) rfl ?_
          exact ⟨none, 0, 0, none, 0, 0, by rw [HN]; rfl, fun h => absurd (HN.symm.trans h) h0, F8⟩
      · skip
        refine wpTill.begin (fun _ => True) 20 (by kernel_rfl) ?_
        change wpTill _ _ _ _ _ _ 21 _ _ _
        refine wpTill.free (jj := 20) (m := 0) [(0, Fact.eq (.pointer (some ⟨w.heap.size, 0, none⟩))),
        (1, Fact.eq (.slice A sha.length c)),
        (2, Fact.eq (.int .i64 sha.length)),
        (3, Fact.eq (.bool false)),
        (4, Fact.eq (.bool false)),
        (5, Fact.eq (.pointer (some ⟨w.heap.size + 1, 0, none⟩))),
        (6, Fact.eq (.slice B shb.length d)),
        (7, Fact.eq (.int .i64 shb.length)),
        (8, Fact.eq (.bool true)),
        (9, Fact.eq (.bool true)),
        (10, Fact.eq (.bool true)),
        (11, Fact.eq undef),
        (12, Fact.eq undef),
        (13, Fact.eq undef),
        (14, Fact.eq undef),
        (15, Fact.eq undef),
        (16, Fact.eq undef),
        (17, Fact.eq undef),
        (18, Fact.eq undef),
        (19, Fact.eq undef),
        (20, Fact.eq (.bool true))] [] [0, 1, 3, 7, 15, 31, 63, 127, 255, 511, 1023, 2047, 4095, 8191, 16383, 2047, 34815, 100351, 231423, 524287, 1048575] [] ?_ (by kernel_rfl) (by kernel_rfl) (by kernel_rfl) [(0, some 14), (1, some 15), (2, some 16), (3, some 17), (4, some 18), (5, some 19), (6, some 20), (7, some 21), (8, some 22), (9, some 23), (10, some 24), (11, some 25), (12, some 26), (13, some 27), (14, some 28), (15, some 29), (16, some 30), (17, some 31), (18, some 32), (19, some 33), (20, some 34)] (by kernel_rfl) ?hA ?hQ (fun _ _ => trivial) (by kernel_rfl) ?steps ?looses ?cont
        case hQ => exact fun _ _ _ _ _ h => h
        case hA =>
          intro vs
          simp only [fillD, List.foldl_cons, List.foldl_nil, Act.put, List.setIfInBounds_toArray, List.set_cons_zero, List.set_cons_succ]
          exact rfl
        case steps =>
          refine ⟨?_, ?_, ?_, ?_, ?_, ?_, ?_, ?_, ?_, ?_, ?_, ?_, ?_, ?_, ?_, ?_, ?_, ?_, ?_, ?_, ?_, trivial⟩
          · rintro vs u ⟨hV0, hV1, hV2, hV3, hV4, hV5, hV6, hV7, hV8, hV9, hV10, hV11, hV12, hV13, hV14, hV15, hV16, hV17, hV18, hV19, hV20, -⟩ G
            exact stepAt.pure (v := .pointer (some ⟨w.heap.size, 0, none⟩)) rfl rfl (by go_simp) rfl
          · rintro vs u ⟨hV0, hV1, hV2, hV3, hV4, hV5, hV6, hV7, hV8, hV9, hV10, hV11, hV12, hV13, hV14, hV15, hV16, hV17, hV18, hV19, hV20, -⟩ G
            have o0 := (ID.out.x0.fr G (by omega)).c0
            have eV0 : vs 0 = .pointer (some ⟨w.heap.size, 0, none⟩) := hV0 rfl
            exact stepAt.pure (v := .slice A sha.length c) rfl rfl (by simp only [eV0]; go_simp) rfl
          · rintro vs u ⟨hV0, hV1, hV2, hV3, hV4, hV5, hV6, hV7, hV8, hV9, hV10, hV11, hV12, hV13, hV14, hV15, hV16, hV17, hV18, hV19, hV20, -⟩ G
            have eV1 : vs 1 = .slice A sha.length c := hV1 rfl
            exact stepAt.pure (v := .int .i64 sha.length) rfl rfl (by simp only [eV1]; go_simp) rfl
          · rintro vs u ⟨hV0, hV1, hV2, hV3, hV4, hV5, hV6, hV7, hV8, hV9, hV10, hV11, hV12, hV13, hV14, hV15, hV16, hV17, hV18, hV19, hV20, -⟩ G
            have eV2 : vs 2 = .int .i64 sha.length := hV2 rfl
            exact stepAt.pure (v := .bool false) rfl rfl (by simp only [eV2]; go_simp <;> omega) rfl
          · rintro vs u ⟨hV0, hV1, hV2, hV3, hV4, hV5, hV6, hV7, hV8, hV9, hV10, hV11, hV12, hV13, hV14, hV15, hV16, hV17, hV18, hV19, hV20, -⟩ G
            have eV3 : vs 3 = .bool false := hV3 rfl
            exact stepAt.pure (v := .bool false) rfl rfl (by simp only [eV3]; go_simp) rfl
          · rintro vs u ⟨hV0, hV1, hV2, hV3, hV4, hV5, hV6, hV7, hV8, hV9, hV10, hV11, hV12, hV13, hV14, hV15, hV16, hV17, hV18, hV19, hV20, -⟩ G
            exact stepAt.pure (v := .pointer (some ⟨w.heap.size + 1, 0, none⟩)) rfl (wanted_by (g := 4) (b := false) (t := 18) rfl (by kernel_rfl) (congrArg some (show vs 4 = _ from hV4 rfl))) (by go_simp) rfl
          · rintro vs u ⟨hV0, hV1, hV2, hV3, hV4, hV5, hV6, hV7, hV8, hV9, hV10, hV11, hV12, hV13, hV14, hV15, hV16, hV17, hV18, hV19, hV20, -⟩ G
            have o0 := (ID.out.x1.fr G (by omega)).c0
            have eV5 : vs 5 = .pointer (some ⟨w.heap.size + 1, 0, none⟩) := hV5 rfl
            exact stepAt.pure (v := .slice B shb.length d) rfl (wanted_by (g := 4) (b := false) (t := 18) rfl (by kernel_rfl) (congrArg some (show vs 4 = _ from hV4 rfl))) (by simp only [eV5]; go_simp) rfl
          · rintro vs u ⟨hV0, hV1, hV2, hV3, hV4, hV5, hV6, hV7, hV8, hV9, hV10, hV11, hV12, hV13, hV14, hV15, hV16, hV17, hV18, hV19, hV20, -⟩ G
            have eV6 : vs 6 = .slice B shb.length d := hV6 rfl
            exact stepAt.pure (v := .int .i64 shb.length) rfl (wanted_by (g := 4) (b := false) (t := 18) rfl (by kernel_rfl) (congrArg some (show vs 4 = _ from hV4 rfl))) (by simp only [eV6]; go_simp) rfl
          · rintro vs u ⟨hV0, hV1, hV2, hV3, hV4, hV5, hV6, hV7, hV8, hV9, hV10, hV11, hV12, hV13, hV14, hV15, hV16, hV17, hV18, hV19, hV20, -⟩ G
            have eV7 : vs 7 = .int .i64 shb.length := hV7 rfl
            exact stepAt.pure (v := .bool true) rfl (wanted_by (g := 4) (b := false) (t := 18) rfl (by kernel_rfl) (congrArg some (show vs 4 = _ from hV4 rfl))) (by simp only [eV7]; go_simp <;> omega) rfl
          · rintro vs u ⟨hV0, hV1, hV2, hV3, hV4, hV5, hV6, hV7, hV8, hV9, hV10, hV11, hV12, hV13, hV14, hV15, hV16, hV17, hV18, hV19, hV20, -⟩ G
            have eV4 : vs 4 = .bool false := hV4 rfl
            have eV8 : vs 8 = .bool true := hV8 rfl
            exact stepAt.pure (v := .bool true) rfl rfl (by simp only [eV4, eV8]; go_simp) rfl
          · rintro vs u ⟨hV0, hV1, hV2, hV3, hV4, hV5, hV6, hV7, hV8, hV9, hV10, hV11, hV12, hV13, hV14, hV15, hV16, hV17, hV18, hV19, hV20, -⟩ G
            have eV9 : vs 9 = .bool true := hV9 rfl
            exact stepAt.pure (v := .bool true) rfl rfl (by simp only [eV9]; go_simp) rfl
          · rintro vs u ⟨hV0, hV1, hV2, hV3, hV4, hV5, hV6, hV7, hV8, hV9, hV10, hV11, hV12, hV13, hV14, hV15, hV16, hV17, hV18, hV19, hV20, -⟩ G
            exact stepAt.unwanted rfl (wanted_not (g := 10) (b := false) (t := 24) rfl (by kernel_rfl) (congrArg some (show vs 10 = _ from hV10 rfl))) rfl
          · rintro vs u ⟨hV0, hV1, hV2, hV3, hV4, hV5, hV6, hV7, hV8, hV9, hV10, hV11, hV12, hV13, hV14, hV15, hV16, hV17, hV18, hV19, hV20, -⟩ G
            exact stepAt.unwanted rfl (wanted_not (g := 10) (b := false) (t := 24) rfl (by kernel_rfl) (congrArg some (show vs 10 = _ from hV10 rfl))) rfl
          · rintro vs u ⟨hV0, hV1, hV2, hV3, hV4, hV5, hV6, hV7, hV8, hV9, hV10, hV11, hV12, hV13, hV14, hV15, hV16, hV17, hV18, hV19, hV20, -⟩ G
            exact stepAt.unwanted rfl (wanted_not (g := 10) (b := false) (t := 24) rfl (by kernel_rfl) (congrArg some (show vs 10 = _ from hV10 rfl))) rfl
          · rintro vs u ⟨hV0, hV1, hV2, hV3, hV4, hV5, hV6, hV7, hV8, hV9, hV10, hV11, hV12, hV13, hV14, hV15, hV16, hV17, hV18, hV19, hV20, -⟩ G
            exact stepAt.unwanted rfl (wanted_not (g := 10) (b := false) (t := 24) rfl (by kernel_rfl) (congrArg some (show vs 10 = _ from hV10 rfl))) rfl
          · rintro vs u ⟨hV0, hV1, hV2, hV3, hV4, hV5, hV6, hV7, hV8, hV9, hV10, hV11, hV12, hV13, hV14, hV15, hV16, hV17, hV18, hV19, hV20, -⟩ G
            exact stepAt.unwanted rfl (wanted_not (g := 10) (b := false) (t := 24) rfl (by kernel_rfl) (congrArg some (show vs 10 = _ from hV10 rfl))) rfl
          · rintro vs u ⟨hV0, hV1, hV2, hV3, hV4, hV5, hV6, hV7, hV8, hV9, hV10, hV11, hV12, hV13, hV14, hV15, hV16, hV17, hV18, hV19, hV20, -⟩ G
            exact stepAt.unwanted rfl (wanted_not (g := 10) (b := false) (t := 24) rfl (by kernel_rfl) (congrArg some (show vs 10 = _ from hV10 rfl))) rfl
          · rintro vs u ⟨hV0, hV1, hV2, hV3, hV4, hV5, hV6, hV7, hV8, hV9, hV10, hV11, hV12, hV13, hV14, hV15, hV16, hV17, hV18, hV19, hV20, -⟩ G
            exact stepAt.unwanted rfl (wanted_not (g := 10) (b := false) (t := 24) rfl (by kernel_rfl) (congrArg some (show vs 10 = _ from hV10 rfl))) rfl
          · rintro vs u ⟨hV0, hV1, hV2, hV3, hV4, hV5, hV6, hV7, hV8, hV9, hV10, hV11, hV12, hV13, hV14, hV15, hV16, hV17, hV18, hV19, hV20, -⟩ G
            exact stepAt.unwanted rfl (wanted_not (g := 10) (b := false) (t := 24) rfl (by kernel_rfl) (congrArg some (show vs 10 = _ from hV10 rfl))) rfl
          · rintro vs u ⟨hV0, hV1, hV2, hV3, hV4, hV5, hV6, hV7, hV8, hV9, hV10, hV11, hV12, hV13, hV14, hV15, hV16, hV17, hV18, hV19, hV20, -⟩ G
            exact stepAt.unwanted rfl (wanted_not (g := 10) (b := false) (t := 24) rfl (by kernel_rfl) (congrArg some (show vs 10 = _ from hV10 rfl))) rfl
          · rintro vs u ⟨hV0, hV1, hV2, hV3, hV4, hV5, hV6, hV7, hV8, hV9, hV10, hV11, hV12, hV13, hV14, hV15, hV16, hV17, hV18, hV19, hV20, -⟩ G
            have eV10 : vs 10 = .bool true := hV10 rfl
            have eV19 : vs 19 = undef := hV19 rfl
            exact stepAt.pure (v := .bool true) rfl rfl (by simp only [eV10, eV19]; go_simp) rfl
        case looses =>
          exact trivial
        case cont =>
          rintro vs u ⟨hV0, hV1, hV2, hV3, hV4, hV5, hV6, hV7, hV8, hV9, hV10, hV11, hV12, hV13, hV14, hV15, hV16, hV17, hV18, hV19, hV20, -⟩ G
          have eV0 : vs 0 = .pointer (some ⟨w.heap.size, 0, none⟩) := hV0
          have eV1 : vs 1 = .slice A sha.length c := hV1
          have eV2 : vs 2 = .int .i64 sha.length := hV2
          have eV3 : vs 3 = .bool false := hV3
          have eV4 : vs 4 = .bool false := hV4
          have eV5 : vs 5 = .pointer (some ⟨w.heap.size + 1, 0, none⟩) := hV5
          have eV6 : vs 6 = .slice B shb.length d := hV6
          have eV7 : vs 7 = .int .i64 shb.length := hV7
          have eV8 : vs 8 = .bool true := hV8
          have eV9 : vs 9 = .bool true := hV9
          have eV10 : vs 10 = .bool true := hV10
          have eV11 : vs 11 = undef := hV11
          have eV12 : vs 12 = undef := hV12
          have eV13 : vs 13 = undef := hV13
          have eV14 : vs 14 = undef := hV14
          have eV15 : vs 15 = undef := hV15
          have eV16 : vs 16 = undef := hV16
          have eV17 : vs 17 = undef := hV17
          have eV18 : vs 18 = undef := hV18
          have eV19 : vs 19 = undef := hV19
          have eV20 : vs 20 = .bool true := hV20
          simp only [eV0, eV1, eV2, eV3, eV4, eV5, eV6, eV7, eV8, eV9, eV10, eV11, eV12, eV13, eV14, eV15, eV16, eV17, eV18, eV19, eV20]
          clear eV0 eV1 eV2 eV3 eV4 eV5 eV6 eV7 eV8 eV9 eV10 eV11 eV12 eV13 eV14 eV15 eV16 eV17 eV18 eV19 eV20 hV0 hV1 hV2 hV3 hV4 hV5 hV6 hV7 hV8 hV9 hV10 hV11 hV12 hV13 hV14 hV15 hV16 hV17 hV18 hV19 hV20
          refine wpTill.done (by kernel_rfl) ?_
          have HN : r = 13 := hr.out.symm.trans (rmE_13 h2)
          have h0 : (13 : Int) ≠ 0 := by decide
          have I3 := Lib.hid (ID.out.keep G (fun k hk => by omega))
          have x2 := I3.out.x2
          have d0 := x2.c0
          have d1 := x2.c1
          have f0 := x2.free 0
          have f1 := x2.free 1
          have F9 := fr_put2 u (w.heap.size + 2) (.slice none 0 0) (.slice none 0 0)
          have y2 := x2.set2 (.slice none 0 0) (.slice none 0 0)
          have F8 := I3.out.fr.comp F9 (R := fun k => k < w.heap.size) fun k _ hk => ⟨hk, by omega⟩
          go_wp2_with fail
          refine bodyPost_ret (results_cell2_tmp rfl rfl y2 Tryz.underlying36 tt2) rfl ?_
          exact ⟨none, 0, 0, none, 0, 0, by rw [HN]; rfl, fun h => absurd (HN.symm.trans h) h0, F8⟩
    · skip
      refine wpTill.begin (fun _ => True) 20 (by kernel_rfl) ?_
      change wpTill _ _ _ _ _ _ 21 _ _ _
      refine wpTill.free (jj := 20) (m := 0) [(0, Fact.eq (.pointer (some ⟨w.heap.size, 0, none⟩))),
        (1, Fact.eq (.slice A sha.length c)),
        (2, Fact.eq (.int .i64 sha.length)),
        (3, Fact.eq (.bool true)),
        (4, Fact.eq (.bool true)),
        (5, Fact.eq undef),
        (6, Fact.eq undef),
        (7, Fact.eq undef),
        (8, Fact.eq undef),
        (9, Fact.eq (.bool true)),
        (10, Fact.eq (.bool true)),
        (11, Fact.eq undef),
        (12, Fact.eq undef),
        (13, Fact.eq undef),
        (14, Fact.eq undef),
        (15, Fact.eq undef),
        (16, Fact.eq undef),
        (17, Fact.eq undef),
        (18, Fact.eq undef),
        (19, Fact.eq undef),
        (20, Fact.eq (.bool true))] [] [0, 1, 3, 7, 15, 31, 63, 127, 255, 511, 1023, 2047, 4095, 8191, 16383, 2047, 34815, 100351, 231423, 524287, 1048575] [] ?_ (by kernel_rfl) (by kernel_rfl) (by kernel_rfl) [(0, some 14), (1, some 15), (2, some 16), (3, some 17), (4, some 18), (5, some 19), (6, some 20), (7, some 21), (8, some 22), (9, some 23), (10, some 24), (11, some 25), (12, some 26), (13, some 27), (14, some 28), (15, some 29), (16, some 30), (17, some 31), (18, some 32), (19, some 33), (20, some 34)] (by kernel_rfl) ?hA ?hQ (fun _ _ => trivial) (by kernel_rfl) ?steps ?looses ?cont
      case hQ => exact fun _ _ _ _ _ h => h
      case hA =>
        intro vs
        simp only [fillD, List.foldl_cons, List.foldl_nil, Act.put, List.setIfInBounds_toArray, List.set_cons_zero, List.set_cons_succ]
        exact rfl
      case steps =>
        refine ⟨?_, ?_, ?_, ?_, ?_, ?_, ?_, ?_, ?_, ?_, ?_, ?_, ?_, ?_, ?_, ?_, ?_, ?_, ?_, ?_, ?_, trivial⟩
        · rintro vs u ⟨hV0, hV1, hV2, hV3, hV4, hV5, hV6, hV7, hV8, hV9, hV10, hV11, hV12, hV13, hV14, hV15, hV16, hV17, hV18, hV19, hV20, -⟩ G
          exact stepAt.pure (v := .pointer (some ⟨w.heap.size, 0, none⟩)) rfl rfl (by go_simp) rfl
        · rintro vs u ⟨hV0, hV1, hV2, hV3, hV4, hV5, hV6, hV7, hV8, hV9, hV10, hV11, hV12, hV13, hV14, hV15, hV16, hV17, hV18, hV19, hV20, -⟩ G
          have o0 := (ID.out.x0.fr G (by omega)).c0
          have eV0 : vs 0 = .pointer (some ⟨w.heap.size, 0, none⟩) := hV0 rfl
          exact stepAt.pure (v := .slice A sha.length c) rfl rfl (by simp only [eV0]; go_simp) rfl
        · rintro vs u ⟨hV0, hV1, hV2, hV3, hV4, hV5, hV6, hV7, hV8, hV9, hV10, hV11, hV12, hV13, hV14, hV15, hV16, hV17, hV18, hV19, hV20, -⟩ G
          have eV1 : vs 1 = .slice A sha.length c := hV1 rfl
          exact stepAt.pure (v := .int .i64 sha.length) rfl rfl (by simp only [eV1]; go_simp) rfl
        · rintro vs u ⟨hV0, hV1, hV2, hV3, hV4, hV5, hV6, hV7, hV8, hV9, hV10, hV11, hV12, hV13, hV14, hV15, hV16, hV17, hV18, hV19, hV20, -⟩ G
          have eV2 : vs 2 = .int .i64 sha.length := hV2 rfl
          exact stepAt.pure (v := .bool true) rfl rfl (by simp only [eV2]; go_simp <;> omega) rfl
        · rintro vs u ⟨hV0, hV1, hV2, hV3, hV4, hV5, hV6, hV7, hV8, hV9, hV10, hV11, hV12, hV13, hV14, hV15, hV16, hV17, hV18, hV19, hV20, -⟩ G
          have eV3 : vs 3 = .bool true := hV3 rfl
          exact stepAt.pure (v := .bool true) rfl rfl (by simp only [eV3]; go_simp) rfl
        · rintro vs u ⟨hV0, hV1, hV2, hV3, hV4, hV5, hV6, hV7, hV8, hV9, hV10, hV11, hV12, hV13, hV14, hV15, hV16, hV17, hV18, hV19, hV20, -⟩ G
          exact stepAt.unwanted rfl (wanted_not (g := 4) (b := false) (t := 18) rfl (by kernel_rfl) (congrArg some (show vs 4 = _ from hV4 rfl))) rfl
        · rintro vs u ⟨hV0, hV1, hV2, hV3, hV4, hV5, hV6, hV7, hV8, hV9, hV10, hV11, hV12, hV13, hV14, hV15, hV16, hV17, hV18, hV19, hV20, -⟩ G
          exact stepAt.unwanted rfl (wanted_not (g := 4) (b := false) (t := 18) rfl (by kernel_rfl) (congrArg some (show vs 4 = _ from hV4 rfl))) rfl
        · rintro vs u ⟨hV0, hV1, hV2, hV3, hV4, hV5, hV6, hV7, hV8, hV9, hV10, hV11, hV12, hV13, hV14, hV15, hV16, hV17, hV18, hV19, hV20, -⟩ G
          exact stepAt.unwanted rfl (wanted_not (g := 4) (b := false) (t := 18) rfl (by kernel_rfl) (congrArg some (show vs 4 = _ from hV4 rfl))) rfl
        · rintro vs u ⟨hV0, hV1, hV2, hV3, hV4, hV5, hV6, hV7, hV8, hV9, hV10, hV11, hV12, hV13, hV14, hV15, hV16, hV17, hV18, hV19, hV20, -⟩ G
          exact stepAt.unwanted rfl (wanted_not (g := 4) (b := false) (t := 18) rfl (by kernel_rfl) (congrArg some (show vs 4 = _ from hV4 rfl))) rfl
        · rintro vs u ⟨hV0, hV1, hV2, hV3, hV4, hV5, hV6, hV7, hV8, hV9, hV10, hV11, hV12, hV13, hV14, hV15, hV16, hV17, hV18, hV19, hV20, -⟩ G
          have eV4 : vs 4 = .bool true := hV4 rfl
          have eV8 : vs 8 = undef := hV8 rfl
          exact stepAt.pure (v := .bool true) rfl rfl (by simp only [eV4, eV8]; go_simp) rfl
        · rintro vs u ⟨hV0, hV1, hV2, hV3, hV4, hV5, hV6, hV7, hV8, hV9, hV10, hV11, hV12, hV13, hV14, hV15, hV16, hV17, hV18, hV19, hV20, -⟩ G
          have eV9 : vs 9 = .bool true := hV9 rfl
          exact stepAt.pure (v := .bool true) rfl rfl (by simp only [eV9]; go_simp) rfl
        · rintro vs u ⟨hV0, hV1, hV2, hV3, hV4, hV5, hV6, hV7, hV8, hV9, hV10, hV11, hV12, hV13, hV14, hV15, hV16, hV17, hV18, hV19, hV20, -⟩ G
          exact stepAt.unwanted rfl (wanted_not (g := 10) (b := false) (t := 24) rfl (by kernel_rfl) (congrArg some (show vs 10 = _ from hV10 rfl))) rfl
        · rintro vs u ⟨hV0, hV1, hV2, hV3, hV4, hV5, hV6, hV7, hV8, hV9, hV10, hV11, hV12, hV13, hV14, hV15, hV16, hV17, hV18, hV19, hV20, -⟩ G
          exact stepAt.unwanted rfl (wanted_not (g := 10) (b := false) (t := 24) rfl (by kernel_rfl) (congrArg some (show vs 10 = _ from hV10 rfl))) rfl
        · rintro vs u ⟨hV0, hV1, hV2, hV3, hV4, hV5, hV6, hV7, hV8, hV9, hV10, hV11, hV12, hV13, hV14, hV15, hV16, hV17, hV18, hV19, hV20, -⟩ G
          exact stepAt.unwanted rfl (wanted_not (g := 10) (b := false) (t := 24) rfl (by kernel_rfl) (congrArg some (show vs 10 = _ from hV10 rfl))) rfl
        · rintro vs u ⟨hV0, hV1, hV2, hV3, hV4, hV5, hV6, hV7, hV8, hV9, hV10, hV11, hV12, hV13, hV14, hV15, hV16, hV17, hV18, hV19, hV20, -⟩ G
          exact stepAt.unwanted rfl (wanted_not (g := 10) (b := false) (t := 24) rfl (by kernel_rfl) (congrArg some (show vs 10 = _ from hV10 rfl))) rfl
        · rintro vs u ⟨hV0, hV1, hV2, hV3, hV4, hV5, hV6, hV7, hV8, hV9, hV10, hV11, hV12, hV13, hV14, hV15, hV16, hV17, hV18, hV19, hV20, -⟩ G
          exact stepAt.unwanted rfl (wanted_not (g := 10) (b := false) (t := 24) rfl (by kernel_rfl) (congrArg some (show vs 10 = _ from hV10 rfl))) rfl
        · rintro vs u ⟨hV0, hV1, hV2, hV3, hV4, hV5, hV6, hV7, hV8, hV9, hV10, hV11, hV12, hV13, hV14, hV15, hV16, hV17, hV18, hV19, hV20, -⟩ G
          exact stepAt.unwanted rfl (wanted_not (g := 10) (b := false) (t := 24) rfl (by kernel_rfl) (congrArg some (show vs 10 = _ from hV10 rfl))) rfl
        · rintro vs u ⟨hV0, hV1, hV2, hV3, hV4, hV5, hV6, hV7, hV8, hV9, hV10, hV11, hV12, hV13, hV14, hV15, hV16, hV17, hV18, hV19, hV20, -⟩ G
          exact stepAt.unwanted rfl (wanted_not (g := 10) (b := false) (t := 24) rfl (by kernel_rfl) (congrArg some (show vs 10 = _ from hV10 rfl))) rfl
        · rintro vs u ⟨hV0, hV1, hV2, hV3, hV4, hV5, hV6, hV7, hV8, hV9, hV10, hV11, hV12, hV13, hV14, hV15, hV16, hV17, hV18, hV19, hV20, -⟩ G
          exact stepAt.unwanted rfl (wanted_not (g := 10) (b := false) (t := 24) rfl (by kernel_rfl) (congrArg some (show vs 10 = _ from hV10 rfl))) rfl
        · rintro vs u ⟨hV0, hV1, hV2, hV3, hV4, hV5, hV6, hV7, hV8, hV9, hV10, hV11, hV12, hV13, hV14, hV15, hV16, hV17, hV18, hV19, hV20, -⟩ G
          exact stepAt.unwanted rfl (wanted_not (g := 10) (b := false) (t := 24) rfl (by kernel_rfl) (congrArg some (show vs 10 = _ from hV10 rfl))) rfl
        · rintro vs u ⟨hV0, hV1, hV2, hV3, hV4, hV5, hV6, hV7, hV8, hV9, hV10, hV11, hV12, hV13, hV14, hV15, hV16, hV17, hV18, hV19, hV20, -⟩ G
          have eV10 : vs 10 = .bool true := hV10 rfl
          have eV19 : vs 19 = undef := hV19 rfl
          exact stepAt.pure (v := .bool true) rfl rfl (by simp only [eV10, eV19]; go_simp) rfl
      case looses =>
        exact trivial
      case cont =>
        rintro vs u ⟨hV0, hV1, hV2, hV3, hV4, hV5, hV6, hV7, hV8, hV9, hV10, hV11, hV12, hV13, hV14, hV15, hV16, hV17, hV18, hV19, hV20, -⟩ G
        have eV0 : vs 0 = .pointer (some ⟨w.heap.size, 0, none⟩) := hV0
        have eV1 : vs 1 = .slice A sha.length c := hV1
        have eV2 : vs 2 = .int .i64 sha.length := hV2
        have eV3 : vs 3 = .bool true := hV3
        have eV4 : vs 4 = .bool true := hV4
        have eV5 : vs 5 = undef := hV5
        have eV6 : vs 6 = undef := hV6
        have eV7 : vs 7 = undef := hV7
        have eV8 : vs 8 = undef := hV8
        have eV9 : vs 9 = .bool true := hV9
        have eV10 : vs 10 = .bool true := hV10
        have eV11 : vs 11 = undef := hV11
        have eV12 : vs 12 = undef := hV12
        have eV13 : vs 13 = undef := hV13
        have eV14 : vs 14 = undef := hV14
        have eV15 : vs 15 = undef := hV15
        have eV16 : vs 16 = undef := hV16
        have eV17 : vs 17 = undef := hV17
        have eV18 : vs 18 = undef := hV18
        have eV19 : vs 19 = undef := hV19
        have eV20 : vs 20 = .bool true := hV20
        simp only [eV0, eV1, eV2, eV3, eV4, eV5, eV6, eV7, eV8, eV9, eV10, eV11, eV12, eV13, eV14, eV15, eV16, eV17, eV18, eV19, eV20]
        clear eV0 eV1 eV2 eV3 eV4 eV5 eV6 eV7 eV8 eV9 eV10 eV11 eV12 eV13 eV14 eV15 eV16 eV17 eV18 eV19 eV20 hV0 hV1 hV2 hV3 hV4 hV5 hV6 hV7 hV8 hV9 hV10 hV11 hV12 hV13 hV14 hV15 hV16 hV17 hV18 hV19 hV20
        refine wpTill.done (by kernel_rfl) ?_
        have HN : r = 13 := hr.out.symm.trans (rmE_13 h2)
        have h0 : (13 : Int) ≠ 0 := by decide
        have I3 := Lib.hid (ID.out.keep G (fun k hk => by omega))
        have x2 := I3.out.x2
        have d0 := x2.c0
        have d1 := x2.c1
        have f0 := x2.free 0
        have f1 := x2.free 1
        have F9 := fr_put2 u (w.heap.size + 2) (.slice none 0 0) (.slice none 0 0)
        have y2 := x2.set2 (.slice none 0 0) (.slice none 0 0)
        have F8 := I3.out.fr.comp F9 (R := fun k => k < w.heap.size) fun k _ hk => ⟨hk, by omega⟩
        go_wp2_with fail
        refine bodyPost_ret (results_cell2_tmp rfl rfl y2 Tryz.underlying36 tt2) rfl ?_
        exact ⟨none, 0, 0, none, 0, 0, by rw [HN]; rfl, fun h => absurd (HN.symm.trans h) h0, F8⟩
  obtain ⟨a1, b1, es, ha1, hb1, ha2, hb2, hea⟩ := two_dimsQ hma.out.1 hma.out.2 h2.1
  obtain ⟨b2, c1, et, hb3, hc1, hb4, hc2, heb⟩ := two_dimsQ hmb.out.1 hmb.out.2 h2.2.1
  have ebb : b2 = b1 := by
    have := h2.2.2
    rw [es, et] at this
    simp at this
    omega
  subst ebb
  have HN : Hid (r = if 1024 < (a1 : Int) * (c1 : Int) then 14 else 0) := Lib.hid (hr.out.symm.trans (by rw [rmE, if_pos h2, es, et]; rfl))
  have h3 := h2.1
  have h4 := h2.2.1
  have H2 := Lib.hid h2
  clear h2
  obtain ⟨agx, hA, g1, _⟩ := Kd.int_cell ID.out.a1 (i := 1) (by omega)
  obtain ⟨ag, hA', g0, _⟩ := Kd.int_cell ID.out.a1 (i := 0) (by omega)
  obtain ⟨afx, hB, g2, _⟩ := Kd.int_cell ID.out.b1 (i := 0) (by omega)
  obtain ⟨af, hB', g3, _⟩ := Kd.int_cell ID.out.b1 (i := 1) (by omega)
  obtain rfl : ag = agx := by rw [hA] at hA'; exact (Option.some.inj hA').symm
  obtain rfl : af = afx := by rw [hB] at hB'; exact (Option.some.inj hB').symm
  have v1 : sha[1] = (b2 : Int) := by simp only [es, List.getElem_cons_succ, List.getElem_cons_zero]
  have v3 : shb[1] = (c1 : Int) := by simp only [et, List.getElem_cons_succ, List.getElem_cons_zero]
  have v0 : sha[0] = (a1 : Int) := by simp only [es, List.getElem_cons_zero]
  have v2 : shb[0] = (b2 : Int) := by simp only [et, List.getElem_cons_zero]
  rw [v1] at g1
  rw [v3] at g3
  rw [v0, addr_zero] at g0
  rw [v2, addr_zero] at g2
  replace g1 : W0.drew.cell? ⟨ag.block, ag.off + 1, none⟩ = some (.int .i64 (b2 : Int)) := g1
  replace g3 : W0.drew.cell? ⟨af.block, af.off + 1, none⟩ = some (.int .i64 (c1 : Int)) := g3
  clear v0 v1 v2 v3
  have HES := Lib.hid es
  have HET := Lib.hid et
  have HEA := Lib.hid hea
  have HEB := Lib.hid heb
  have HBB : Hid (r = 0 → ∀ n k, k ≤ b2 → (dg DB (mmS qa qb b2 c1 n k).num.natAbs).length ≤ M ∧ (dg DB (mmS qa qb b2 c1 n k).den).length ≤ M) := Lib.hid (by
    have h := hBnd.out
    rw [es, et] at h
    exact h)
  clear es et hea heb hBnd
  subst hA
  subst hB
  clear hA' hB'
  refine wpTill.begin (fun _ => True) 20 (by kernel_rfl) ?_
  change wpTill _ _ _ _ _ _ 21 _ _ _
  refine wpTill.free (jj := 20) (m := 0) [(0, Fact.eq (.pointer (some ⟨w.heap.size, 0, none⟩))),
        (1, Fact.eq (.slice (some ag) sha.length c)),
        (2, Fact.eq (.int .i64 sha.length)),
        (3, Fact.eq (.bool false)),
        (4, Fact.eq (.bool false)),
        (5, Fact.eq (.pointer (some ⟨w.heap.size + 1, 0, none⟩))),
        (6, Fact.eq (.slice (some af) shb.length d)),
        (7, Fact.eq (.int .i64 shb.length)),
        (8, Fact.eq (.bool false)),
        (9, Fact.eq (.bool false)),
        (10, Fact.eq (.bool false)),
        (11, Fact.eq (.pointer (some ⟨w.heap.size, 0, none⟩))),
        (12, Fact.eq (.slice (some ag) sha.length c)),
        (13, Fact.eq (.pointer (some ⟨ag.block, ag.off + 1, none⟩))),
        (14, Fact.eq (.int .i64 (b2 : Int))),
        (15, Fact.eq (.pointer (some ⟨w.heap.size + 1, 0, none⟩))),
        (16, Fact.eq (.slice (some af) shb.length d)),
        (17, Fact.eq (.pointer (some af))),
        (18, Fact.eq (.int .i64 (b2 : Int))),
        (19, Fact.eq (.bool false)),
        (20, Fact.eq (.bool false))] [] [0, 1, 3, 7, 15, 31, 63, 127, 255, 511, 1023, 2047, 4095, 8191, 16383, 2047, 34815, 100351, 231423, 524287, 1048575] [] ?_ (by kernel_rfl) (by kernel_rfl) (by kernel_rfl) [(0, some 14), (1, some 15), (2, some 16), (3, some 17), (4, some 18), (5, some 19), (6, some 20), (7, some 21), (8, some 22), (9, some 23), (10, some 24), (11, some 25), (12, some 26), (13, some 27), (14, some 28), (15, some 29), (16, some 30), (17, some 31), (18, some 32), (19, some 33), (20, some 34)] (by kernel_rfl) ?hA ?hQ (fun _ _ => trivial) (by kernel_rfl) ?steps ?looses ?cont
  case hQ => exact fun _ _ _ _ _ h => h
  case hA =>
    intro vs
    simp only [fillD, List.foldl_cons, List.foldl_nil, Act.put, List.setIfInBounds_toArray, List.set_cons_zero, List.set_cons_succ]
    exact rfl
  case steps =>
    refine ⟨?_, ?_, ?_, ?_, ?_, ?_, ?_, ?_, ?_, ?_, ?_, ?_, ?_, ?_, ?_, ?_, ?_, ?_, ?_, ?_, ?_, trivial⟩
    · rintro vs u ⟨hV0, hV1, hV2, hV3, hV4, hV5, hV6, hV7, hV8, hV9, hV10, hV11, hV12, hV13, hV14, hV15, hV16, hV17, hV18, hV19, hV20, -⟩ G
      exact stepAt.pure (v := .pointer (some ⟨w.heap.size, 0, none⟩)) rfl rfl (by go_simp) rfl
    · rintro vs u ⟨hV0, hV1, hV2, hV3, hV4, hV5, hV6, hV7, hV8, hV9, hV10, hV11, hV12, hV13, hV14, hV15, hV16, hV17, hV18, hV19, hV20, -⟩ G
      have o0 := (ID.out.x0.fr G (by omega)).c0
      have eV0 : vs 0 = .pointer (some ⟨w.heap.size, 0, none⟩) := hV0 rfl
      exact stepAt.pure (v := .slice (some ag) sha.length c) rfl rfl (by simp only [eV0]; go_simp) rfl
    · rintro vs u ⟨hV0, hV1, hV2, hV3, hV4, hV5, hV6, hV7, hV8, hV9, hV10, hV11, hV12, hV13, hV14, hV15, hV16, hV17, hV18, hV19, hV20, -⟩ G
      have eV1 : vs 1 = .slice (some ag) sha.length c := hV1 rfl
      exact stepAt.pure (v := .int .i64 sha.length) rfl rfl (by simp only [eV1]; go_simp) rfl
    · rintro vs u ⟨hV0, hV1, hV2, hV3, hV4, hV5, hV6, hV7, hV8, hV9, hV10, hV11, hV12, hV13, hV14, hV15, hV16, hV17, hV18, hV19, hV20, -⟩ G
      have eV2 : vs 2 = .int .i64 sha.length := hV2 rfl
      exact stepAt.pure (v := .bool false) rfl rfl (by simp only [eV2]; go_simp <;> omega) rfl
    · rintro vs u ⟨hV0, hV1, hV2, hV3, hV4, hV5, hV6, hV7, hV8, hV9, hV10, hV11, hV12, hV13, hV14, hV15, hV16, hV17, hV18, hV19, hV20, -⟩ G
      have eV3 : vs 3 = .bool false := hV3 rfl
      exact stepAt.pure (v := .bool false) rfl rfl (by simp only [eV3]; go_simp) rfl
    · rintro vs u ⟨hV0, hV1, hV2, hV3, hV4, hV5, hV6, hV7, hV8, hV9, hV10, hV11, hV12, hV13, hV14, hV15, hV16, hV17, hV18, hV19, hV20, -⟩ G
      exact stepAt.pure (v := .pointer (some ⟨w.heap.size + 1, 0, none⟩)) rfl (wanted_by (g := 4) (b := false) (t := 18) rfl (by kernel_rfl) (congrArg some (show vs 4 = _ from hV4 rfl))) (by go_simp) rfl
    · rintro vs u ⟨hV0, hV1, hV2, hV3, hV4, hV5, hV6, hV7, hV8, hV9, hV10, hV11, hV12, hV13, hV14, hV15, hV16, hV17, hV18, hV19, hV20, -⟩ G
      have o0 := (ID.out.x1.fr G (by omega)).c0
      have eV5 : vs 5 = .pointer (some ⟨w.heap.size + 1, 0, none⟩) := hV5 rfl
      exact stepAt.pure (v := .slice (some af) shb.length d) rfl (wanted_by (g := 4) (b := false) (t := 18) rfl (by kernel_rfl) (congrArg some (show vs 4 = _ from hV4 rfl))) (by simp only [eV5]; go_simp) rfl
    · rintro vs u ⟨hV0, hV1, hV2, hV3, hV4, hV5, hV6, hV7, hV8, hV9, hV10, hV11, hV12, hV13, hV14, hV15, hV16, hV17, hV18, hV19, hV20, -⟩ G
      have eV6 : vs 6 = .slice (some af) shb.length d := hV6 rfl
      exact stepAt.pure (v := .int .i64 shb.length) rfl (wanted_by (g := 4) (b := false) (t := 18) rfl (by kernel_rfl) (congrArg some (show vs 4 = _ from hV4 rfl))) (by simp only [eV6]; go_simp) rfl
    · rintro vs u ⟨hV0, hV1, hV2, hV3, hV4, hV5, hV6, hV7, hV8, hV9, hV10, hV11, hV12, hV13, hV14, hV15, hV16, hV17, hV18, hV19, hV20, -⟩ G
      have eV7 : vs 7 = .int .i64 shb.length := hV7 rfl
      exact stepAt.pure (v := .bool false) rfl (wanted_by (g := 4) (b := false) (t := 18) rfl (by kernel_rfl) (congrArg some (show vs 4 = _ from hV4 rfl))) (by simp only [eV7]; go_simp <;> omega) rfl
    · rintro vs u ⟨hV0, hV1, hV2, hV3, hV4, hV5, hV6, hV7, hV8, hV9, hV10, hV11, hV12, hV13, hV14, hV15, hV16, hV17, hV18, hV19, hV20, -⟩ G
      have eV4 : vs 4 = .bool false := hV4 rfl
      have eV8 : vs 8 = .bool false := hV8 rfl
      exact stepAt.pure (v := .bool false) rfl rfl (by simp only [eV4, eV8]; go_simp) rfl
    · rintro vs u ⟨hV0, hV1, hV2, hV3, hV4, hV5, hV6, hV7, hV8, hV9, hV10, hV11, hV12, hV13, hV14, hV15, hV16, hV17, hV18, hV19, hV20, -⟩ G
      have eV9 : vs 9 = .bool false := hV9 rfl
      exact stepAt.pure (v := .bool false) rfl rfl (by simp only [eV9]; go_simp) rfl
    · rintro vs u ⟨hV0, hV1, hV2, hV3, hV4, hV5, hV6, hV7, hV8, hV9, hV10, hV11, hV12, hV13, hV14, hV15, hV16, hV17, hV18, hV19, hV20, -⟩ G
      exact stepAt.pure (v := .pointer (some ⟨w.heap.size, 0, none⟩)) rfl (wanted_by (g := 10) (b := false) (t := 24) rfl (by kernel_rfl) (congrArg some (show vs 10 = _ from hV10 rfl))) (by go_simp) rfl
    · rintro vs u ⟨hV0, hV1, hV2, hV3, hV4, hV5, hV6, hV7, hV8, hV9, hV10, hV11, hV12, hV13, hV14, hV15, hV16, hV17, hV18, hV19, hV20, -⟩ G
      have o0 := (ID.out.x0.fr G (by omega)).c0
      have eV11 : vs 11 = .pointer (some ⟨w.heap.size, 0, none⟩) := hV11 rfl
      exact stepAt.pure (v := .slice (some ag) sha.length c) rfl (wanted_by (g := 10) (b := false) (t := 24) rfl (by kernel_rfl) (congrArg some (show vs 10 = _ from hV10 rfl))) (by simp only [eV11]; go_simp) rfl
    · rintro vs u ⟨hV0, hV1, hV2, hV3, hV4, hV5, hV6, hV7, hV8, hV9, hV10, hV11, hV12, hV13, hV14, hV15, hV16, hV17, hV18, hV19, hV20, -⟩ G
      have eV12 : vs 12 = .slice (some ag) sha.length c := hV12 rfl
      exact stepAt.pure (v := .pointer (some ⟨ag.block, ag.off + 1, none⟩)) rfl (wanted_by (g := 10) (b := false) (t := 24) rfl (by kernel_rfl) (congrArg some (show vs 10 = _ from hV10 rfl))) (by simp only [eV12]; go_simp) rfl
    · rintro vs u ⟨hV0, hV1, hV2, hV3, hV4, hV5, hV6, hV7, hV8, hV9, hV10, hV11, hV12, hV13, hV14, hV15, hV16, hV17, hV18, hV19, hV20, -⟩ G
      have o0 := G.cell g1 (World.block_lt_of_cell? _ _ g1)
      have eV13 : vs 13 = .pointer (some ⟨ag.block, ag.off + 1, none⟩) := hV13 rfl
      exact stepAt.pure (v := .int .i64 (b2 : Int)) rfl (wanted_by (g := 10) (b := false) (t := 24) rfl (by kernel_rfl) (congrArg some (show vs 10 = _ from hV10 rfl))) (by simp only [eV13]; go_simp) rfl
    · rintro vs u ⟨hV0, hV1, hV2, hV3, hV4, hV5, hV6, hV7, hV8, hV9, hV10, hV11, hV12, hV13, hV14, hV15, hV16, hV17, hV18, hV19, hV20, -⟩ G
      exact stepAt.pure (v := .pointer (some ⟨w.heap.size + 1, 0, none⟩)) rfl (wanted_by (g := 10) (b := false) (t := 24) rfl (by kernel_rfl) (congrArg some (show vs 10 = _ from hV10 rfl))) (by go_simp) rfl
    · rintro vs u ⟨hV0, hV1, hV2, hV3, hV4, hV5, hV6, hV7, hV8, hV9, hV10, hV11, hV12, hV13, hV14, hV15, hV16, hV17, hV18, hV19, hV20, -⟩ G
      have o0 := (ID.out.x1.fr G (by omega)).c0
      have eV15 : vs 15 = .pointer (some ⟨w.heap.size + 1, 0, none⟩) := hV15 rfl
      exact stepAt.pure (v := .slice (some af) shb.length d) rfl (wanted_by (g := 10) (b := false) (t := 24) rfl (by kernel_rfl) (congrArg some (show vs 10 = _ from hV10 rfl))) (by simp only [eV15]; go_simp) rfl
    · rintro vs u ⟨hV0, hV1, hV2, hV3, hV4, hV5, hV6, hV7, hV8, hV9, hV10, hV11, hV12, hV13, hV14, hV15, hV16, hV17, hV18, hV19, hV20, -⟩ G
      have eV16 : vs 16 = .slice (some af) shb.length d := hV16 rfl
      exact stepAt.pure (v := .pointer (some af)) rfl (wanted_by (g := 10) (b := false) (t := 24) rfl (by kernel_rfl) (congrArg some (show vs 10 = _ from hV10 rfl))) (by simp only [eV16]; go_simp) rfl
    · rintro vs u ⟨hV0, hV1, hV2, hV3, hV4, hV5, hV6, hV7, hV8, hV9, hV10, hV11, hV12, hV13, hV14, hV15, hV16, hV17, hV18, hV19, hV20, -⟩ G
      have o0 := G.cell g2 (World.block_lt_of_cell? _ _ g2)
      have eV17 : vs 17 = .pointer (some af) := hV17 rfl
      exact stepAt.pure (v := .int .i64 (b2 : Int)) rfl (wanted_by (g := 10) (b := false) (t := 24) rfl (by kernel_rfl) (congrArg some (show vs 10 = _ from hV10 rfl))) (by simp only [eV17]; go_simp) rfl
    · rintro vs u ⟨hV0, hV1, hV2, hV3, hV4, hV5, hV6, hV7, hV8, hV9, hV10, hV11, hV12, hV13, hV14, hV15, hV16, hV17, hV18, hV19, hV20, -⟩ G
      have eV14 : vs 14 = .int .i64 (b2 : Int) := hV14 rfl
      have eV18 : vs 18 = .int .i64 (b2 : Int) := hV18 rfl
      exact stepAt.pure (v := .bool false) rfl (wanted_by (g := 10) (b := false) (t := 24) rfl (by kernel_rfl) (congrArg some (show vs 10 = _ from hV10 rfl))) (by simp only [eV14, eV18]; go_simp <;> omega) rfl
    · rintro vs u ⟨hV0, hV1, hV2, hV3, hV4, hV5, hV6, hV7, hV8, hV9, hV10, hV11, hV12, hV13, hV14, hV15, hV16, hV17, hV18, hV19, hV20, -⟩ G
      have eV10 : vs 10 = .bool false := hV10 rfl
      have eV19 : vs 19 = .bool false := hV19 rfl
      exact stepAt.pure (v := .bool false) rfl rfl (by simp only [eV10, eV19]; go_simp) rfl
  case looses =>
    exact trivial
  case cont =>
    rintro vs u ⟨hV0, hV1, hV2, hV3, hV4, hV5, hV6, hV7, hV8, hV9, hV10, hV11, hV12, hV13, hV14, hV15, hV16, hV17, hV18, hV19, hV20, -⟩ G
    have eV0 : vs 0 = .pointer (some ⟨w.heap.size, 0, none⟩) := hV0
    have eV1 : vs 1 = .slice (some ag) sha.length c := hV1
    have eV2 : vs 2 = .int .i64 sha.length := hV2
    have eV3 : vs 3 = .bool false := hV3
    have eV4 : vs 4 = .bool false := hV4
    have eV5 : vs 5 = .pointer (some ⟨w.heap.size + 1, 0, none⟩) := hV5
    have eV6 : vs 6 = .slice (some af) shb.length d := hV6
    have eV7 : vs 7 = .int .i64 shb.length := hV7
    have eV8 : vs 8 = .bool false := hV8
    have eV9 : vs 9 = .bool false := hV9
    have eV10 : vs 10 = .bool false := hV10
    have eV11 : vs 11 = .pointer (some ⟨w.heap.size, 0, none⟩) := hV11
    have eV12 : vs 12 = .slice (some ag) sha.length c := hV12
    have eV13 : vs 13 = .pointer (some ⟨ag.block, ag.off + 1, none⟩) := hV13
    have eV14 : vs 14 = .int .i64 (b2 : Int) := hV14
    have eV15 : vs 15 = .pointer (some ⟨w.heap.size + 1, 0, none⟩) := hV15
    have eV16 : vs 16 = .slice (some af) shb.length d := hV16
    have eV17 : vs 17 = .pointer (some af) := hV17
    have eV18 : vs 18 = .int .i64 (b2 : Int) := hV18
    have eV19 : vs 19 = .bool false := hV19
    have eV20 : vs 20 = .bool false := hV20
    simp only [eV0, eV1, eV2, eV3, eV4, eV5, eV6, eV7, eV8, eV9, eV10, eV11, eV12, eV13, eV14, eV15, eV16, eV17, eV18, eV19, eV20]
    clear eV0 eV1 eV2 eV3 eV4 eV5 eV6 eV7 eV8 eV9 eV10 eV11 eV12 eV13 eV14 eV15 eV16 eV17 eV18 eV19 eV20 hV0 hV1 hV2 hV3 hV4 hV5 hV6 hV7 hV8 hV9 hV10 hV11 hV12 hV13 hV14 hV15 hV16 hV17 hV18 hV19 hV20
    refine wpTill.done (by kernel_rfl) ?_
    replace g0 := G.cell g0 (World.block_lt_of_cell? _ _ g0)
    replace g1 := G.cell g1 (World.block_lt_of_cell? _ _ g1)
    replace g3 := G.cell g3 (World.block_lt_of_cell? _ _ g3)
    replace ID := Lib.hid (ID.out.keep G (fun k hk => by omega))
    have ltu := ID.out.lt
    clear g2 G ltd
    go_wp2_with fail
    have l1 : (1 : Int) < sha.length := by omega
    have l2 : (1 : Int) < shb.length := by omega
    have l0 : (0 : Int) < sha.length := by omega
    have KS : ∀ v, Fr (fun k => k < u.drew.heap.size) u.drew v → v.cell? ⟨w.heap.size, 0, none⟩ = some (.slice (some ag) sha.length c) ∧ v.cell? ⟨w.heap.size + 1, 0, none⟩ = some (.slice (some af) shb.length d) ∧ v.cell? ag = some (.int .i64 (a1 : Int)) ∧ v.cell? ⟨ag.block, ag.off + 1, none⟩ = some (.int .i64 (b2 : Int)) ∧ v.cell? ⟨af.block, af.off + 1, none⟩ = some (.int .i64 (c1 : Int)) := fun v h => by
      have h' := (Fr.refl (fun k => k < u.heap.size) u).drew.trans h
      exact ⟨(ID.out.x0.fr h' (by omega)).c0, (ID.out.x1.fr h' (by omega)).c0, h'.cell g0 (World.block_lt_of_cell? _ _ g0), h'.cell g1 (World.block_lt_of_cell? _ _ g1), h'.cell g3 (World.block_lt_of_cell? _ _ g3)⟩
    have S0 := KS _ (Fr.refl _ _)
    refine wpTill.begin (fun v => v.cell? ⟨w.heap.size, 0, none⟩ = some (.slice (some ag) sha.length c) ∧ v.cell? ⟨w.heap.size + 1, 0, none⟩ = some (.slice (some af) shb.length d) ∧ v.cell? ag = some (.int .i64 (a1 : Int)) ∧ v.cell? ⟨ag.block, ag.off + 1, none⟩ = some (.int .i64 (b2 : Int)) ∧ v.cell? ⟨af.block, af.off + 1, none⟩ = some (.int .i64 (c1 : Int))) 14 (by kernel_rfl) ?_
    change wpTill _ _ _ _ _ _ 15 _ _ _
    refine wpTill.take 0 (.pointer (some ⟨w.heap.size, 0, none⟩)) rfl (by kernel_rfl) (by kernel_rfl) (fun _ _ _ h => h) S0 (by rfl) (fun u hu => by go_simp) ?_
    try simp only [Act.put, List.setIfInBounds_toArray, List.set_cons_zero, List.set_cons_succ]
    refine wpTill.take 1 (.slice (some ag) sha.length c) rfl (by kernel_rfl) (by kernel_rfl) (fun _ _ _ h => h) S0 (by rfl) (fun u hu => by go_simp) ?_
    try simp only [Act.put, List.setIfInBounds_toArray, List.set_cons_zero, List.set_cons_succ]
    refine wpTill.take 2 (.pointer (some ag)) rfl (by kernel_rfl) (by kernel_rfl) (fun _ _ _ h => h) S0 (by rfl) (fun u hu => by go_simp) ?_
    try simp only [Act.put, List.setIfInBounds_toArray, List.set_cons_zero, List.set_cons_succ]
    refine wpTill.take 3 (.int .i64 (a1 : Int)) rfl (by kernel_rfl) (by kernel_rfl) (fun _ _ _ h => h) S0 (by rfl) (fun u hu => by go_simp) ?_
    try simp only [Act.put, List.setIfInBounds_toArray, List.set_cons_zero, List.set_cons_succ]
    refine wpTill.take 4 (.pointer (some ⟨w.heap.size, 0, none⟩)) rfl (by kernel_rfl) (by kernel_rfl) (fun _ _ _ h => h) S0 (by rfl) (fun u hu => by go_simp) ?_
    try simp only [Act.put, List.setIfInBounds_toArray, List.set_cons_zero, List.set_cons_succ]
    refine wpTill.take 5 (.slice (some ag) sha.length c) rfl (by kernel_rfl) (by kernel_rfl) (fun _ _ _ h => h) S0 (by rfl) (fun u hu => by go_simp) ?_
    try simp only [Act.put, List.setIfInBounds_toArray, List.set_cons_zero, List.set_cons_succ]
    refine wpTill.take 6 (.pointer (some ⟨ag.block, ag.off + 1, none⟩)) rfl (by kernel_rfl) (by kernel_rfl) (fun _ _ _ h => h) S0 (by rfl) (fun u hu => by go_simp) ?_
    try simp only [Act.put, List.setIfInBounds_toArray, List.set_cons_zero, List.set_cons_succ]
    refine wpTill.take 7 (.int .i64 (b2 : Int)) rfl (by kernel_rfl) (by kernel_rfl) (fun _ _ _ h => h) S0 (by rfl) (fun u hu => by go_simp) ?_
    try simp only [Act.put, List.setIfInBounds_toArray, List.set_cons_zero, List.set_cons_succ]
    refine wpTill.take 8 (.pointer (some ⟨w.heap.size + 1, 0, none⟩)) rfl (by kernel_rfl) (by kernel_rfl) (fun _ _ _ h => h) S0 (by rfl) (fun u hu => by go_simp) ?_
    try simp only [Act.put, List.setIfInBounds_toArray, List.set_cons_zero, List.set_cons_succ]
    refine wpTill.take 9 (.slice (some af) shb.length d) rfl (by kernel_rfl) (by kernel_rfl) (fun _ _ _ h => h) S0 (by rfl) (fun u hu => by go_simp) ?_
    try simp only [Act.put, List.setIfInBounds_toArray, List.set_cons_zero, List.set_cons_succ]
    refine wpTill.take 10 (.pointer (some ⟨af.block, af.off + 1, none⟩)) rfl (by kernel_rfl) (by kernel_rfl) (fun _ _ _ h => h) S0 (by rfl) (fun u hu => by go_simp) ?_
    try simp only [Act.put, List.setIfInBounds_toArray, List.set_cons_zero, List.set_cons_succ]
    refine wpTill.take 11 (.int .i64 (c1 : Int)) rfl (by kernel_rfl) (by kernel_rfl) (fun _ _ _ h => h) S0 (by rfl) (fun u hu => by go_simp) ?_
    try simp only [Act.put, List.setIfInBounds_toArray, List.set_cons_zero, List.set_cons_succ]
    refine wpTill.next 12 rfl (by kernel_rfl) (by rfl) (fun KC hKC => ?_)
    go_simp
    refine hKC _ _ (fun _ => S0) ?_
    clear hKC KC
    try simp only [Act.put, List.setIfInBounds_toArray, List.set_cons_zero, List.set_cons_succ]
    refine wpTill.next 13 rfl (by kernel_rfl) (by rfl) (fun KC hKC => ?_)
    go_simp
    refine hKC _ _ (fun _ => S0) ?_
    clear hKC KC
    try simp only [Act.put, List.setIfInBounds_toArray, List.set_cons_zero, List.set_cons_succ]
    refine wpTill.next 14 rfl (by kernel_rfl) (by rfl) (fun KC hKC => ?_)
    go_simp
    refine hKC _ _ (no_wait (by kernel_rfl)) ?_
    clear hKC KC
    try simp only [Act.put, List.setIfInBounds_toArray, List.set_cons_zero, List.set_cons_succ]
    refine wpTill.done (by kernel_rfl) ?_
    replace ID := Lib.hid (ID.out.keep (Fr.refl (fun _ => True) u).drew (fun _ _ => trivial))
    have hud : w.heap.size + 3 ≤ u.drew.heap.size := ltu
    clear S0 KS g0 g1 g3 l0 l1 l2 ltu
    generalize u.drew = Ud at ID hud ⊢
    have hq : (a1 : Int) * (c1 : Int) = ((a1 * c1 : Nat) : Int) := (Int.natCast_mul _ _).symm
    have hqb : a1 * c1 ≤ 1024 * 1024 := Nat.mul_le_mul ha2 hc2
    obtain ⟨q0, hq0⟩ : ∃ q, a1 * c1 = q := ⟨_, rfl⟩
    rw [hq, hq0] at HN
    have hw : IntKind.i64.wrap ((a1 : Int) * (c1 : Int)) = (q0 : Int) := by rw [hq, hq0, IntKind.wrap_i64]; omega
    have HQ0 := Lib.hid hq0
    clear hq
    by_cases hbig : (1024 : Int) < (q0 : Int)
    case pos =>
      replace HN : r = 14 := HN.out.trans (if_pos hbig)
      have h0 : (14 : Int) ≠ 0 := by decide
      have I3 := ID
      have x2 := I3.out.x2
      have d0 := x2.c0
      have d1 := x2.c1
      have f0 := x2.free 0
      have f1 := x2.free 1
      have F9 := fr_put2 Ud (w.heap.size + 2) (.slice none 0 0) (.slice none 0 0)
      have y2 := x2.set2 (.slice none 0 0) (.slice none 0 0)
      have F8 := I3.out.fr.comp F9 (R := fun k => k < w.heap.size) fun k _ hk => ⟨hk, by omega⟩
      go_wp2_with fail
      refine bodyPost_ret (results_cell2_tmp rfl rfl y2 Tryz.underlying36 tt2) rfl ?_
      exact ⟨none, 0, 0, none, 0, 0, by rw [HN]; rfl, fun h => absurd (HN.symm.trans h) h0, F8⟩
    replace HN : r = 0 := HN.out.trans (if_neg hbig)
    have al := fun R => ((Fr.refl R Ud).alloc (.cells #[.int .i64 (a1 : Int), .int .i64 (c1 : Int)] 3)).alloc (.cells #[.slice (some ⟨Ud.heap.size, 0, none⟩) 2 2, .slice none 0 0] 36)
    have b9b := Box2.new (Ud.alloc (.cells #[.int .i64 (a1 : Int), .int .i64 (c1 : Int)] 3)) 36 (.slice (some ⟨Ud.heap.size, 0, none⟩) 2 2) (.slice none 0 0)
    have oSh := (Own.ints (e := 3) (S := fun k => k = Ud.heap.size) Ud [(a1 : Int), (c1 : Int)] #[.int .i64 (a1 : Int), .int .i64 (c1 : Int)] rfl (by intro x hx; rcases List.mem_cons.1 hx with rfl | hx; omega; rw [List.mem_singleton] at hx; omega) (by simp) rfl).keep' ((Fr.refl (fun k => k < (Ud.alloc (.cells #[.int .i64 (a1 : Int), .int .i64 (c1 : Int)] 3)).heap.size) _).alloc (.cells #[.slice (some ⟨Ud.heap.size, 0, none⟩) 2 2, .slice none 0 0] 36))
    replace ID := ID.out.keep (al (fun _ => True)) (fun _ _ => trivial)
    rw [World.size_alloc] at b9b
    clear al
    go_wp2_with fail
    generalize (Ud.alloc (.cells #[.int .i64 (a1 : Int), .int .i64 (c1 : Int)] 3)).alloc (.cells #[.slice (some ⟨Ud.heap.size, 0, none⟩) 2 2, .slice none 0 0] 36) = V0 at ID b9b oSh ⊢
    obtain ⟨bs, hbs⟩ : ∃ b, Ud.heap.size = b := ⟨_, rfl⟩
    rw [hbs] at b9b oSh hud ⊢
    clear hbs
    have INI : Own (Rk M) 58 (fun k => bs + 1 < k) V0 (.slice none 0 0) ((List.range (0 * c1)).map fun n => mmS qa qb b2 c1 n b2) := by rw [Nat.zero_mul]; exact Own.nil _ _ _ _
    go_loopw [10] (fun oi wr => ∃ (i : Nat) (v2 : Value), i ≤ a1 ∧ oi = .int .i64 i ∧ RMI w (.slice (some ag) sha.length c) (.slice A' qa.length c') (.slice (some af) shb.length d) (.slice B' qb.length d') sha qa shb qb K wr ∧ Box2 wr (bs + 1) 36 (.slice (some ⟨bs, 0, none⟩) 2 2) v2 ∧ Own Im 3 (fun k => k = bs) wr (.slice (some ⟨bs, 0, none⟩) 2 2) [(a1 : Int), (c1 : Int)] ∧ Own (Rk M) 58 (fun k => (bs + 1) < k) wr v2 ((List.range (i * c1)).map fun n => mmS qa qb b2 c1 n b2)) (fun oi _ => a1 - (intOf oi).toNat)
    case atStart => exact ⟨0, _, Nat.zero_le _, rfl, ID, b9b, oSh, INI⟩
    case round =>
      clear ID b9b oSh INI
      obtain ⟨i, v2, hi, rfl, ID, b9b, oSh, oL⟩ := hrel
      by_cases hlti : i < a1
      case neg =>
        obtain rfl : i = a1 := by omega
        obtain ⟨A2, m2, k2, rfl⟩ := oL.form
        have x2 := ID.x2
        have c0 := b9b.c0
        have c1' := b9b.c1
        have hres : ((List.range (i * c1)).map fun n => mmS qa qb b2 c1 n b2) = mmL qa qb (sha.getD 0 0).toNat (sha.getD 1 0).toNat (shb.getD 1 0).toNat := by rw [HES.out, HET.out]; rfl
        rw [hres] at oL
        rw [show [(i : Int), (c1 : Int)] = [sha.getD 0 0, shb.getD 1 0] by rw [HES.out, HET.out]; rfl] at oSh
        clear hres
        go_wp2_with ((with_reducible apply wpList_st2); rfl; rfl; exact x2; exact tt2; rfl; rfl; intro w9 B9 F9)
        refine bodyPost_ret (results_cell2_tmp rfl rfl B9 Tryz.underlying36 tt2) rfl ?_
        exact ⟨_, _, _, _, _, _, by rw [HN]; rfl, fun _ => ⟨(oSh.past F9 fun k hk => by omega).mono fun k hk => by omega, (oL.past F9 fun k hk => by omega).mono fun k hk => by omega⟩, ID.fr.comp F9 fun k _ hk => ⟨hk, by omega⟩⟩
      go_wp2_with fail
      have INJ : Own (Rk M) 58 (fun k => bs + 1 < k) wr v2 ((List.range (i * c1 + 0)).map fun n => mmS qa qb b2 c1 n b2) := oL
      go_loopw [11] (fun oj wr => ∃ (j : Nat) (v2 : Value), j ≤ c1 ∧ oj = .int .i64 j ∧ RMI w (.slice (some ag) sha.length c) (.slice A' qa.length c') (.slice (some af) shb.length d) (.slice B' qb.length d') sha qa shb qb K wr ∧ Box2 wr (bs + 1) 36 (.slice (some ⟨bs, 0, none⟩) 2 2) v2 ∧ Own Im 3 (fun k => k = bs) wr (.slice (some ⟨bs, 0, none⟩) 2 2) [(a1 : Int), (c1 : Int)] ∧ Own (Rk M) 58 (fun k => (bs + 1) < k) wr v2 ((List.range (i * c1 + j)).map fun n => mmS qa qb b2 c1 n b2)) (fun oj _ => c1 - (intOf oj).toNat)
      case atStart => exact ⟨0, _, Nat.zero_le _, rfl, ID, b9b, oSh, INJ⟩
      case round =>
        clear ID b9b oSh oL INJ
        obtain ⟨j, v2, hj, rfl, ID, b9b, oSh, oL⟩ := hrel
        rename World => Wj
        by_cases hltj : j < c1
        case neg =>
          obtain rfl : j = c1 := by omega
          go_wp2_with fail
          go_roundw
          case rel => exact ⟨i + 1, _, by omega, by go_num, ID, b9b, oSh, by rw [Nat.succ_mul]; exact oL⟩
          case measure => first | (simp [intOf]; done) | (simp [intOf]; omega)
        have ltw := ID.lt
        have l9 := b9b.lt
        have HDM : Hid ((i * c1 + j) / c1 = i ∧ (i * c1 + j) % c1 = j) := Lib.hid (divmod_at hltj)
        obtain ⟨n, hn⟩ : ∃ n, i * c1 + j = n := ⟨_, rfl⟩
        rw [hn] at HDM oL
        have hnb : n < a1 * c1 := by rw [← hn]; exact row_lt hlti hltj
        have HNN := Lib.hid hn
        clear hn
        go_wp2_with fail
        with_reducible refine (rint_s _ 0 (by decide) (by decide)).mono ?_
        rintro e W2 ⟨s0, v3, v4, rfl, hs0, h0, hf⟩
        obtain ⟨⟨Q1, m3, k3, rfl⟩, ⟨Q2, m4, k4, rfl⟩⟩ := h0.out.form
        have al := fun R => (Fr.refl R W2).alloc (.cells #[.bool s0, .slice Q1 m3 k3, .slice Q2 m4 k4] 58)
        have b12b := Box3.new W2 58 (.bool s0) (.slice Q1 m3 k3) (.slice Q2 m4 k4)
        have G4 : Fr (fun k => k < Wj.heap.size) Wj _ := fr_then hf (al _)
        have HR0 := Lib.hid (show RR (fun k => Wj.heap.size ≤ k ∧ k ≠ W2.heap.size) _ _ _ (mmS qa qb b2 c1 n 0) M from ((h0.out.bd.fr (al _)).mono fun k hk => ⟨hk.1, by omega⟩).wide h6)
        have HS0 := Lib.hid (show s0 = sg (mmS qa qb b2 c1 n 0) from hs0.out)
        have s2 := hf.size
        obtain ⟨b12, hb12⟩ : ∃ b, W2.heap.size = b := ⟨_, rfl⟩
        clear h0 al hf hs0
        go_wp2_with fail
        generalize W2.alloc (.cells #[.bool s0, .slice Q1 m3 k3, .slice Q2 m4 k4] 58) = W3 at b12b G4 HR0 ⊢
        rw [hb12] at b12b HR0 s2
        clear hb12
        go_loopw [13] (fun ok wr => ∃ (k : Nat) (t : Bool) (w1 w2 : Value), k ≤ b2 ∧ ok = .int .i64 k ∧ Box3 wr b12 58 (.bool t) w1 w2 ∧ Hid (t = sg (mmS qa qb b2 c1 n k)) ∧ Hid (RR (fun κ => Wj.heap.size ≤ κ ∧ κ ≠ b12) wr w1 w2 (mmS qa qb b2 c1 n k) M) ∧ Fr (fun κ => κ < Wj.heap.size) Wj wr) (fun ok _ => b2 - (intOf ok).toNat)
        case atStart => exact ⟨0, _, _, _, Nat.zero_le _, rfl, b12b, HS0, HR0, G4⟩
        case round =>
          clear b12b HS0 HR0 G4
          obtain ⟨k, t, w1, w2, hk, rfl, b12b, HT, HR, G4⟩ := hrel
          obtain ⟨⟨Q3, ia, ja, rfl⟩, ⟨Q4, ib, jb, rfl⟩⟩ := HR.out.form
          have s4 := G4.size
          by_cases hltk : k < b2
          case neg =>
            obtain rfl : k = b2 := by omega
            obtain ⟨A2, m2, k2, rfl⟩ := oL.form
            have b9' := b9b.keep G4
            have oL' := oL.keep' G4
            have oS' := oSh.keep' G4
            have ID' := ID.keep G4 (fun k hk => by omega)
            have HLn := Lib.hid (show (((List.range n).map fun n => mmS qa qb k c1 n k).length + 1) * 56 ≤ 140737488355328 ∧ ((List.range n).map fun n => mmS qa qb k c1 n k).length + 1 ≤ 9223372036854775807 by
              rw [List.length_map, List.length_range]; omega)
            have lt2 := oL.lt
            have in2 := oL.in_
            have e0 := b9'.c1
            have e1 := b9'.free 1
            have x16 := Box3.c0 b12b
            have x17 := Box3.c1 b12b
            have x18 := Box3.c2 b12b
            go_wp2_with (at_builtin; refine wpList_push1 (v := .slice A2 m2 k2) (y := mmS qa qb k c1 n k) (T := fun κ => Wj.heap.size ≤ κ) (cs := [.bool t, .slice Q3 ia ja, .slice Q4 ib jb]) (rkT M) rfl rfl rfl rfl oL' ⟨_, _, by rw [HT.out], HR.out.mono fun κ hκ => hκ.1⟩ (fun κ hκ _ => ⟨by omega, fun e => by have := lt2 κ e.symm; omega⟩) (fun κ hκ => by omega) HLn.out.1 HLn.out.2 ?_; intro v5 u2 ho hfr hat; obtain ⟨A3, n3, c3, rfl⟩ := ho.form; have q5 := b9'.fr hfr (fun e => by have := in2 _ e.symm; omega); have e2 := q5.c1; have e3 := q5.free 1)
            have F9 := fr_set1 u2 (bs + 1) 1 (.slice A3 n3 c3)
            have ID9 := (ID'.keep hfr (fun κ hκ e => by have := in2 _ e.symm; omega)).keep F9 (fun κ hκ => by omega)
            have oS9 := (oS'.past hfr (fun κ hκ e => by have := in2 _ e.symm; omega)).past F9 (fun κ hκ => by omega)
            have o9 := ho.past F9 (fun κ hκ => by omega)
            go_roundw
            case rel =>
              refine ⟨j + 1, _, by omega, by go_num, ID9, q5.set1 _, oS9, ?_⟩
              rw [← Nat.add_assoc, HNN.out, List.range_succ, List.map_append, List.map_singleton]
              exact o9
            case measure => first | (simp [intOf]; done) | (simp [intOf]; omega)
          obtain ⟨q1, hq1⟩ : ∃ q, i * b2 = q := ⟨_, rfl⟩
          obtain ⟨i1, hi1⟩ : ∃ q, q1 + k = q := ⟨_, rfl⟩
          obtain ⟨q2, hq2⟩ : ∃ q, k * c1 = q := ⟨_, rfl⟩
          obtain ⟨i2, hi2⟩ : ∃ q, q2 + j = q := ⟨_, rfl⟩
          have hI1 : i1 < qa.length := by rw [HEA.out, ← hi1, ← hq1]; exact row_lt hlti hltk
          have hI2 : i2 < qb.length := by rw [HEB.out, ← hi2, ← hq2]; exact row_lt hltk hltj
          have hEA : qa.length ≤ 1048576 := by rw [HEA.out]; exact Nat.mul_le_mul ha2 hb4
          have hEB : qb.length ≤ 1048576 := by rw [HEB.out]; exact Nat.mul_le_mul hb4 hc2
          have hw1 : IntKind.i64.wrap ((b2 : Int) * (i : Int)) = (q1 : Int) := by rw [← Int.natCast_mul, Nat.mul_comm, hq1, IntKind.wrap_i64]; omega
          have hw2 : IntKind.i64.wrap ((q1 : Int) + (k : Int)) = (i1 : Int) := by rw [IntKind.wrap_i64]; omega
          have hw3 : IntKind.i64.wrap ((c1 : Int) * (k : Int)) = (q2 : Int) := by rw [← Int.natCast_mul, Nat.mul_comm, hq2, IntKind.wrap_i64]; omega
          have hw4 : IntKind.i64.wrap ((q2 : Int) + (j : Int)) = (i2 : Int) := by rw [IntKind.wrap_i64]; omega
          have DD := fun R => (Fr.refl R wr).drew
          have I8 := (ID.keep G4 (fun κ hκ => by omega)).keep (DD (fun _ => True)) (fun _ _ => trivial)
          have b12d := b12b.fr (DD (fun _ => True)) trivial
          have HRd := Lib.hid (HR.out.fr (DD _))
          obtain ⟨ah, P1, n1, e1, P2, n2, e2, hA1, hS1, g0, g1, g2, t1⟩ := Rk_get I8.a2 hI1
          obtain ⟨ak, P3, n3, e3, P4, n4, e4, hA2, hS2, g3, g4, g5, t3⟩ := Rk_get I8.b2 hI2
          subst hA1
          subst hA2
          have HST : Hid (mmS qa qb b2 c1 n (k + 1) = mmS qa qb b2 c1 n k + qa[i1] * qb[i2]) := Lib.hid (by
            rw [mmS_step, HDM.out.1, HDM.out.2, hq1, hi1, hq2, hi2, List.getD_eq_getElem?_getD, List.getD_eq_getElem?_getD, List.getElem?_eq_getElem hI1, List.getElem?_eq_getElem hI2]
            rfl)
          have hB1 := HBB.out HN n (k + 1) hltk
          generalize qa[i1] = x1 at g0 t1 HST
          generalize qb[i2] = y1 at g3 t3 HST
          obtain ⟨sx, hsx⟩ : ∃ s, s = sg x1 := ⟨_, rfl⟩
          obtain ⟨sy, hsy⟩ : ∃ s, s = sg y1 := ⟨_, rfl⟩
          rw [← hsx] at g0
          rw [← hsy] at g3
          have PP := Lib.hid (rmul_h wr.drew sx sy _ _ _ _ x1 y1 K (Lib.hid t1) (Lib.hid t3) (Lib.hid hsx) (Lib.hid hsy) hK1 (by omega))
          have hWd : wr.drew.heap.size = wr.heap.size := rfl
          have l16 := Box3.lt b12b
          have KS : ∀ v, Fr (fun κ => κ < wr.drew.heap.size) wr.drew v → v.cell? ⟨b12, 0, none⟩ = some (.bool t) ∧ v.cell? ⟨b12, 1, none⟩ = some (.slice Q3 ia ja) ∧ v.cell? ⟨b12, 2, none⟩ = some (.slice Q4 ib jb) ∧ v.cell? ⟨w.heap.size, 1, none⟩ = some (.slice (some ah) qa.length c') ∧ v.cell? ⟨w.heap.size + 1, 1, none⟩ = some (.slice (some ak) qb.length d') ∧ v.cell? (ah.add (i1 * 3)) = some (.bool sx) ∧ v.cell? ⟨(ah.add (i1 * 3)).block, (ah.add (i1 * 3)).off + 1, none⟩ = some (.slice P1 n1 e1) ∧ v.cell? ⟨(ah.add (i1 * 3)).block, (ah.add (i1 * 3)).off + 2, none⟩ = some (.slice P2 n2 e2) ∧ v.cell? (ak.add (i2 * 3)) = some (.bool sy) ∧ v.cell? ⟨(ak.add (i2 * 3)).block, (ak.add (i2 * 3)).off + 1, none⟩ = some (.slice P3 n3 e3) ∧ v.cell? ⟨(ak.add (i2 * 3)).block, (ak.add (i2 * 3)).off + 2, none⟩ = some (.slice P4 n4 e4) := fun v h =>
            ⟨(b12d.fr h l16).c0, (b12d.fr h l16).c1, (b12d.fr h l16).c2, (I8.x0.fr h (by omega)).c1, (I8.x1.fr h (by omega)).c1,
              h.cell g0 (World.block_lt_of_cell? _ _ g0), h.cell g1 (World.block_lt_of_cell? _ _ g1), h.cell g2 (World.block_lt_of_cell? _ _ g2), h.cell g3 (World.block_lt_of_cell? _ _ g3), h.cell g4 (World.block_lt_of_cell? _ _ g4), h.cell g5 (World.block_lt_of_cell? _ _ g5)⟩
          have S0 := KS _ (Fr.refl _ _)
          have HQ := Lib.hid (And.intro hq1 (And.intro hi1 (And.intro hq2 hi2)))
          clear hq1 hi1 hq2 hi2 t1 t3 g0 g1 g2 g3 g4 g5 hsx hsy
          go_wp2_with fail
          refine wpTill.begin (fun v => v.cell? ⟨b12, 0, none⟩ = some (.bool t) ∧ v.cell? ⟨b12, 1, none⟩ = some (.slice Q3 ia ja) ∧ v.cell? ⟨b12, 2, none⟩ = some (.slice Q4 ib jb) ∧ v.cell? ⟨w.heap.size, 1, none⟩ = some (.slice (some ah) qa.length c') ∧ v.cell? ⟨w.heap.size + 1, 1, none⟩ = some (.slice (some ak) qb.length d') ∧ v.cell? (ah.add (i1 * 3)) = some (.bool sx) ∧ v.cell? ⟨(ah.add (i1 * 3)).block, (ah.add (i1 * 3)).off + 1, none⟩ = some (.slice P1 n1 e1) ∧ v.cell? ⟨(ah.add (i1 * 3)).block, (ah.add (i1 * 3)).off + 2, none⟩ = some (.slice P2 n2 e2) ∧ v.cell? (ak.add (i2 * 3)) = some (.bool sy) ∧ v.cell? ⟨(ak.add (i2 * 3)).block, (ak.add (i2 * 3)).off + 1, none⟩ = some (.slice P3 n3 e3) ∧ v.cell? ⟨(ak.add (i2 * 3)).block, (ak.add (i2 * 3)).off + 2, none⟩ = some (.slice P4 n4 e4)) 21 (by kernel_rfl) ?_
          change wpTill _ _ _ _ _ _ 22 _ _ _
          refine wpTill.take 0 (.agg #[.bool t, .slice Q3 ia ja, .slice Q4 ib jb]) rfl (by kernel_rfl) (by kernel_rfl) (fun _ _ _ h => h) S0 (by rfl) (fun u hu => by go_simp) ?_
          try simp only [Act.put, List.setIfInBounds_toArray, List.set_cons_zero, List.set_cons_succ]
          refine wpTill.take 1 (.pointer (some ⟨w.heap.size, 1, none⟩)) rfl (by kernel_rfl) (by kernel_rfl) (fun _ _ _ h => h) S0 (by rfl) (fun u hu => by go_simp) ?_
          try simp only [Act.put, List.setIfInBounds_toArray, List.set_cons_zero, List.set_cons_succ]
          refine wpTill.take 2 (.slice (some ah) qa.length c') rfl (by kernel_rfl) (by kernel_rfl) (fun _ _ _ h => h) S0 (by rfl) (fun u hu => by go_simp) ?_
          try simp only [Act.put, List.setIfInBounds_toArray, List.set_cons_zero, List.set_cons_succ]
          refine wpTill.take 3 (.int .i64 (b2 : Int)) rfl (by kernel_rfl) (by kernel_rfl) (fun _ _ _ h => h) S0 (by rfl) (fun u hu => by go_simp) ?_
          try simp only [Act.put, List.setIfInBounds_toArray, List.set_cons_zero, List.set_cons_succ]
          refine wpTill.take 4 (.int .i64 (i : Int)) rfl (by kernel_rfl) (by kernel_rfl) (fun _ _ _ h => h) S0 (by rfl) (fun u hu => by go_simp) ?_
          try simp only [Act.put, List.setIfInBounds_toArray, List.set_cons_zero, List.set_cons_succ]
          refine wpTill.take 5 (.int .i64 (q1 : Int)) rfl (by kernel_rfl) (by kernel_rfl) (fun _ _ _ h => h) S0 (by rfl) (fun u hu => by go_simp) ?_
          try simp only [Act.put, List.setIfInBounds_toArray, List.set_cons_zero, List.set_cons_succ]
          refine wpTill.take 6 (.int .i64 (k : Int)) rfl (by kernel_rfl) (by kernel_rfl) (fun _ _ _ h => h) S0 (by rfl) (fun u hu => by go_simp) ?_
          try simp only [Act.put, List.setIfInBounds_toArray, List.set_cons_zero, List.set_cons_succ]
          refine wpTill.take 7 (.int .i64 (i1 : Int)) rfl (by kernel_rfl) (by kernel_rfl) (fun _ _ _ h => h) S0 (by rfl) (fun u hu => by go_simp) ?_
          try simp only [Act.put, List.setIfInBounds_toArray, List.set_cons_zero, List.set_cons_succ]
          refine wpTill.take 8 (.pointer (some (ah.add (i1 * 3)))) rfl (by kernel_rfl) (by kernel_rfl) (fun _ _ _ h => h) S0 (by rfl) (fun u hu => by go_simp) ?_
          try simp only [Act.put, List.setIfInBounds_toArray, List.set_cons_zero, List.set_cons_succ]
          refine wpTill.take 9 (.agg #[.bool sx, .slice P1 n1 e1, .slice P2 n2 e2]) rfl (by kernel_rfl) (by kernel_rfl) (fun _ _ _ h => h) S0 (by rfl) (fun u hu => by go_simp) ?_
          try simp only [Act.put, List.setIfInBounds_toArray, List.set_cons_zero, List.set_cons_succ]
          refine wpTill.take 10 (.pointer (some ⟨w.heap.size + 1, 1, none⟩)) rfl (by kernel_rfl) (by kernel_rfl) (fun _ _ _ h => h) S0 (by rfl) (fun u hu => by go_simp) ?_
          try simp only [Act.put, List.setIfInBounds_toArray, List.set_cons_zero, List.set_cons_succ]
          refine wpTill.take 11 (.slice (some ak) qb.length d') rfl (by kernel_rfl) (by kernel_rfl) (fun _ _ _ h => h) S0 (by rfl) (fun u hu => by go_simp) ?_
          try simp only [Act.put, List.setIfInBounds_toArray, List.set_cons_zero, List.set_cons_succ]
          refine wpTill.take 12 (.int .i64 (c1 : Int)) rfl (by kernel_rfl) (by kernel_rfl) (fun _ _ _ h => h) S0 (by rfl) (fun u hu => by go_simp) ?_
          try simp only [Act.put, List.setIfInBounds_toArray, List.set_cons_zero, List.set_cons_succ]
          refine wpTill.take 13 (.int .i64 (k : Int)) rfl (by kernel_rfl) (by kernel_rfl) (fun _ _ _ h => h) S0 (by rfl) (fun u hu => by go_simp) ?_
          try simp only [Act.put, List.setIfInBounds_toArray, List.set_cons_zero, List.set_cons_succ]
          refine wpTill.take 14 (.int .i64 (q2 : Int)) rfl (by kernel_rfl) (by kernel_rfl) (fun _ _ _ h => h) S0 (by rfl) (fun u hu => by go_simp) ?_
          try simp only [Act.put, List.setIfInBounds_toArray, List.set_cons_zero, List.set_cons_succ]
          refine wpTill.take 15 (.int .i64 (j : Int)) rfl (by kernel_rfl) (by kernel_rfl) (fun _ _ _ h => h) S0 (by rfl) (fun u hu => by go_simp) ?_
          try simp only [Act.put, List.setIfInBounds_toArray, List.set_cons_zero, List.set_cons_succ]
          refine wpTill.take 16 (.int .i64 (i2 : Int)) rfl (by kernel_rfl) (by kernel_rfl) (fun _ _ _ h => h) S0 (by rfl) (fun u hu => by go_simp) ?_
          try simp only [Act.put, List.setIfInBounds_toArray, List.set_cons_zero, List.set_cons_succ]
          refine wpTill.take 17 (.pointer (some (ak.add (i2 * 3)))) rfl (by kernel_rfl) (by kernel_rfl) (fun _ _ _ h => h) S0 (by rfl) (fun u hu => by go_simp) ?_
          try simp only [Act.put, List.setIfInBounds_toArray, List.set_cons_zero, List.set_cons_succ]
          refine wpTill.take 18 (.agg #[.bool sy, .slice P3 n3 e3, .slice P4 n4 e4]) rfl (by kernel_rfl) (by kernel_rfl) (fun _ _ _ h => h) S0 (by rfl) (fun u hu => by go_simp) ?_
          try simp only [Act.put, List.setIfInBounds_toArray, List.set_cons_zero, List.set_cons_succ]
          refine wpTill.next 19 rfl (by kernel_rfl) (by rfl) (fun KC hKC => ?_)
          go_simp
          with_reducible refine PP.out.mono ?_
          rintro e u1 ⟨s8, v3, v4, rfl, hs8, h8, hf1⟩
          obtain ⟨⟨Q5, i5, j5, rfl⟩, ⟨Q6, i6, j6, rfl⟩⟩ := h8.out.form
          refine hKC _ _ (fun _ => KS _ hf1) ?_
          clear hKC KC
          try simp only [Act.put, List.setIfInBounds_toArray, List.set_cons_zero, List.set_cons_succ]
          refine wpTill.next 20 rfl (by kernel_rfl) (by rfl) (fun KC hKC => ?_)
          go_simp
          with_reducible refine (radd_h _ t s8 (.slice Q3 ia ja) (.slice Q4 ib jb) (.slice Q5 i5 j5) (.slice Q6 i6 j6) (mmS qa qb b2 c1 n k) (x1 * y1) M (Lib.hid (HRd.out.keep hf1)) (Lib.hid (h8.out.wide hKM)) HT hs8 (by omega) hM).mono ?_
          rintro e u2 ⟨s9, v5, v6, rfl, hs9, h9, hf2⟩
          obtain ⟨⟨Q7, i7, j7, rfl⟩, ⟨Q8, i8, j8, rfl⟩⟩ := h9.out.form
          have G2 : Fr (fun κ => κ < wr.drew.heap.size) wr.drew u2 := fr_then hf1 hf2
          refine hKC _ _ (fun _ => KS _ G2) ?_
          clear hKC KC
          try simp only [Act.put, List.setIfInBounds_toArray, List.set_cons_zero, List.set_cons_succ]
          have j9 := b12d.fr G2 l16
          have d0 := j9.c0
          have d1 := j9.c1
          have d2 := j9.c2
          have d3 := j9.free 0
          have d4 := j9.free 1
          have d5 := j9.free 2
          have s5 := hf1.size
          clear PP S0 KS
          refine wpTill.next 21 rfl (by kernel_rfl) (by rfl) (fun KC hKC => ?_)
          go_simp
          refine hKC _ _ (no_wait (by kernel_rfl)) ?_
          clear hKC KC
          try simp only [Act.put, List.setIfInBounds_toArray, List.set_cons_zero, List.set_cons_succ]
          refine wpTill.done (by kernel_rfl) ?_
          have F9 := fr_set3 u2 b12 (.bool s9) (.slice Q7 i7 j7) (.slice Q8 i8 j8)
          have k9 := j9.set3 (.bool s9) (.slice Q7 i7 j7) (.slice Q8 i8 j8)
          have GG : Fr (fun κ => κ < Wj.heap.size) Wj (((u2.setCell ⟨b12, 0, none⟩ (.bool s9)).setCell ⟨b12, 1, none⟩ (.slice Q7 i7 j7)).setCell ⟨b12, 2, none⟩ (.slice Q8 i8 j8)) := ((fr_then G4.drew (G2.mono fun κ _ hκ => hκ)).comp F9 (R := fun κ => κ < Wj.heap.size) fun κ _ hκ => ⟨hκ, by omega⟩)
          have hv := h9.out.past F9 (fun κ hκ => by omega)
          rw [← HST.out] at hv
          have HV2 := Lib.hid ((hv.mono (T := fun κ => Wj.heap.size ≤ κ ∧ κ ≠ b12) fun κ hκ => ⟨by omega, by omega⟩).sizes hB1.1 hB1.2)
          have hs9o := hs9.out
          rw [← HST.out] at hs9o
          have HS9 := Lib.hid hs9o
          clear d0 d1 d2 d3 d4 d5 F9 hv hs9o
          go_wp2_with fail
          go_roundw
          case rel => exact ⟨k + 1, _, _, _, by omega, by go_num, k9, HS9, HV2, GG⟩
          case measure => first | (simp [intOf]; done) | (simp [intOf]; omega)
end Go.Proofs.YtlppcfeimpcbjaaGreat
