import Derived.Test.YtlppcfeimpcbjaaGreatFpF
import Derived.Test.YtlppcfeimpcbjaaGreatFoB
import Derived.Test.YtlppcfeimpcbjaaGreatFpC
set_option linter.unusedSimpArgs false
set_option linter.unusedVariables false

/- fold.Gemm: printed by gen_fpg.py. -/
namespace Go.Proofs.YtlppcfeimpcbjaaGreat
open Go.RowKit Go.Shelf
attribute [local go_sem] Oper.semAt_some

/-- Why there is no product and sum of matrices. -/
def gemE (sha : List Int) (ea : List RatL) (shb : List Int) (eb : List RatL) (shc : List Int) (ec : List RatL) : Int :=
  if mayT sha ea ≠ 0 then mayT sha ea else if mayT shb eb ≠ 0 then mayT shb eb else if mayT shc ec ≠ 0 then mayT shc ec else if mmE sha ea shb eb ≠ 0 then mmE sha ea shb eb else fitsE shc [sha.getD 0 0, shb.getD 1 0]
section
variable {sha shb shc : List Int} {ea eb ec : List RatL}
theorem gemE_a (h : mayT sha ea ≠ 0) : gemE sha ea shb eb shc ec = mayT sha ea := if_pos h
theorem gemE_b (h : mayT sha ea = 0) (h1 : mayT shb eb ≠ 0) : gemE sha ea shb eb shc ec = mayT shb eb := by
  unfold gemE
  rw [if_neg (by simpa using h), if_pos h1]
theorem gemE_c (h : mayT sha ea = 0) (h1 : mayT shb eb = 0) (h2 : mayT shc ec ≠ 0) : gemE sha ea shb eb shc ec = mayT shc ec := by
  unfold gemE
  rw [if_neg (by simpa using h), if_neg (by simpa using h1), if_pos h2]
theorem gemE_m (h : mayT sha ea = 0) (h1 : mayT shb eb = 0) (h2 : mayT shc ec = 0) (h3 : mmE sha ea shb eb ≠ 0) : gemE sha ea shb eb shc ec = mmE sha ea shb eb := by
  unfold gemE
  rw [if_neg (by simpa using h), if_neg (by simpa using h1), if_neg (by simpa using h2), if_pos h3]
theorem gemE_f (h : mayT sha ea = 0) (h1 : mayT shb eb = 0) (h2 : mayT shc ec = 0) (h3 : mmE sha ea shb eb = 0) : gemE sha ea shb eb shc ec = fitsE shc [sha.getD 0 0, shb.getD 1 0] := by
  unfold gemE
  rw [if_neg (by simpa using h), if_neg (by simpa using h1), if_neg (by simpa using h2), if_neg (by simpa using h3)]
theorem fits_ok {xs ys : List Int} (h : fitsE xs ys = 0) : mayS xs = 0 ∧ mayS ys = 0 ∧ xs.length ≤ ys.length ∧ ∀ i, i < xs.length → alongP xs ys i := by
  unfold fitsE at h
  by_cases h1 : mayS xs = 0
  · rw [if_neg (by simpa using h1)] at h
    by_cases h2 : mayS ys = 0
    · rw [if_neg (by simpa using h2)] at h
      by_cases h3 : xs.length ≤ ys.length ∧ ∀ i, i < xs.length → alongP xs ys i
      · exact ⟨h1, h2, h3.1, h3.2⟩
      · rw [if_neg h3] at h; cases h
    · rw [if_pos h2] at h; exact absurd h h2
  · rw [if_pos h1] at h; exact absurd h h1
end
/-- What lies in memory from the beginning on. -/
theorem pr_mem {l : List Int} (h : ∀ d ∈ l, 1 ≤ d) {x : Int} (hx : x ∈ l) : x ≤ pr l := by
  induction l with
  | nil => cases hx
  | cons y l ih =>
    have hy := h y List.mem_cons_self
    have hp := pr_pos (l := l) fun d hd => h d (List.mem_cons_of_mem _ hd)
    rw [show pr (y :: l) = y * pr l from rfl]
    rcases List.mem_cons.1 hx with rfl | hx
    · have := Int.mul_le_mul_of_nonneg_left (show 1 ≤ pr l by omega) (show 0 ≤ x by omega)
      omega
    · have h1 := ih (fun d hd => h d (List.mem_cons_of_mem _ hd)) hx
      have := Int.mul_le_mul_of_nonneg_right hy (show 0 ≤ pr l by omega)
      omega
theorem dims_le {l : List Int} (h : mayS l = 0) : ∀ d ∈ l, 1 ≤ d ∧ d ≤ 1024 := fun d hd => by
  obtain ⟨_, h1, h2⟩ := mayS_ok h
  have := pr_mem h1 hd
  exact ⟨h1 d hd, by omega⟩
structure GMI (w : World) (va vea vb veb vc vec : Value) (sha : List Int) (ea : List RatL) (shb : List Int) (eb : List RatL) (shc : List Int) (ec : List RatL) (W : World) : Prop where
  a1 : Sl Im (fun k => k < w.heap.size) W va sha
  a2 : Sl Rm (fun k => k < w.heap.size) W vea ea
  b1 : Sl Im (fun k => k < w.heap.size) W vb shb
  b2 : Sl Rm (fun k => k < w.heap.size) W veb eb
  c1 : Sl Im (fun k => k < w.heap.size) W vc shc
  c2 : Sl Rm (fun k => k < w.heap.size) W vec ec
  x0 : Box2 W w.heap.size 26 va vea
  x1 : Box2 W (w.heap.size + 1) 26 vb veb
  x2 : Box2 W (w.heap.size + 2) 26 vc vec
  x3 : Box2 W (w.heap.size + 3) 26 (.slice none 0 0) (.slice none 0 0)
  fr : Fr (fun k => k < w.heap.size) w W
theorem GMI.keep {w : World} {va vea vb veb vc vec : Value} {sha shb shc : List Int} {ea eb ec : List RatL} {W W' : World} (h : GMI w va vea vb veb vc vec sha ea shb eb shc ec W) {R : Nat → Prop} (hf : Fr R W W') (hR : ∀ k, k < w.heap.size + 4 → R k) : GMI w va vea vb veb vc vec sha ea shb eb shc ec W' :=
  ⟨h.a1.fr (hf.mono fun k _ hk => hR k (by omega)), h.a2.fr (hf.mono fun k _ hk => hR k (by omega)), h.b1.fr (hf.mono fun k _ hk => hR k (by omega)), h.b2.fr (hf.mono fun k _ hk => hR k (by omega)), h.c1.fr (hf.mono fun k _ hk => hR k (by omega)), h.c2.fr (hf.mono fun k _ hk => hR k (by omega)),
    h.x0.fr hf (hR _ (by omega)), h.x1.fr hf (hR _ (by omega)), h.x2.fr hf (hR _ (by omega)), h.x3.fr hf (hR _ (by omega)), h.fr.comp hf fun k _ hk => ⟨hk, hR k (by omega)⟩⟩
theorem GMI.lt {w : World} {va vea vb veb vc vec : Value} {sha shb shc : List Int} {ea eb ec : List RatL} {W : World} (h : GMI w va vea vb veb vc vec sha ea shb eb shc ec W) : w.heap.size + 4 ≤ W.heap.size := h.x3.lt
theorem own_apart {α β : Type} {K : Kd α} {K' : Kd β} {e e' : TypeId} {S T : Nat → Prop} {w : World} {v v' : Value} {xs : List α} {ys : List β} (h : Own K e S w v xs) (h' : Own K' e' T w v' ys) (he : e ≠ e') (k : Nat) (hk : v.ownBlock = some k) : v'.ownBlock ≠ some k := fun hk' => by
  obtain ⟨_, ⟨_, h1⟩, _⟩ := h
  obtain ⟨_, ⟨_, h2⟩, _⟩ := h'
  rcases h1 with ⟨rfl, _⟩ | ⟨g, cap, cur, rfl, _, hg, _⟩
  · cases hk
  rcases h2 with ⟨rfl, _⟩ | ⟨g', cap', cur', rfl, _, hg', _⟩
  · cases hk'
  cases hk
  cases hk'
  rw [hg] at hg'
  cases hg'
  exact he rfl
theorem own_base {α : Type} {K : Kd α} {e : TypeId} {S : Nat → Prop} {w : World} {A : Option Addr} {n c : Nat} {xs : List α} (h : Own K e S w (.slice A n c) xs) (h0 : 0 < xs.length) : n = xs.length ∧ ∃ g, A = some ⟨g, 0, none⟩ := by
  obtain ⟨cells, ⟨_, h1⟩, _⟩ := h
  rcases h1 with ⟨h2, h3⟩ | ⟨g, cap, cur, h2, _⟩
  · omega
  · cases h2
    exact ⟨rfl, g, rfl⟩

set_option maxRecDepth 100000 in
set_option maxHeartbeats 16000000 in
theorem gemm_t {S T U V X Y : Nat → Prop} (w : World) (va vea vb veb vc vec : Value) (sha shb shc : List Int) (ea eb ec : List RatL) (L K : Nat) (r : Int) (hr : Hid (gemE sha ea shb eb shc ec = r)) (ha : Sl Im S w va sha) (hea : Sl Rm T w vea ea) (hb : Sl Im U w vb shb) (heb : Sl Rm V w veb eb) (hc : Sl Im X w vc shc) (hec : Sl Rm Y w vec ec)
    (hLa : ∀ x ∈ ea, x.2.1.length ≤ L ∧ x.2.2.length ≤ L) (hLb : ∀ x ∈ eb, x.2.1.length ≤ L ∧ x.2.2.length ≤ L) (hLc : ∀ x ∈ ec, x.2.1.length ≤ L ∧ x.2.2.length ≤ L) (hL1 : 1 ≤ L) (hKL : 6 * L ≤ K) (hK6 : K ≤ 104857600)
    (hK : Hid (mmE sha ea shb eb = 0 → ∀ n k, k ≤ (sha.getD 1 0).toNat → Lens K (mmS (ea.map qOf) (eb.map qOf) (sha.getD 1 0).toNat (shb.getD 1 0).toNat n k))) (qs : List Rat) (hqs : Hid (mmL (ea.map qOf) (eb.map qOf) (sha.getD 0 0).toNat (sha.getD 1 0).toNat (shb.getD 1 0).toNat = qs)) (da dc : Int) (hda : Hid (sha.getD 0 0 = da)) (hdc : Hid (shb.getD 1 0 = dc)) :
    Calls Tryz.prog 26 #[.agg #[va, vea], .agg #[vb, veb], .agg #[vc, vec]] w (FoldR w [da, dc] ((gemL qs (ec.map qOf) shc [da, dc] qs.length).map canR) r) := by
  have hl : L ≤ 104857600 := by omega
  have HC01 := Lib.hid (hc.low Im_pos)
  have HC02 := Lib.hid (hec.low Rm_pos)
  obtain ⟨A, c, rfl, _, _, _⟩ := ha.slice
  obtain ⟨A', c', rfl, _, _, hlea⟩ := hea.slice
  obtain ⟨B, d, rfl, _, _, _⟩ := hb.slice
  obtain ⟨B', d', rfl, _, _, hleb⟩ := heb.slice
  obtain ⟨C, f, rfl, _, _, _⟩ := hc.slice
  obtain ⟨C', f', rfl, _, _, hlec⟩ := hec.slice
  have F0 := fun R => ((((Fr.refl R w).alloc (.cells #[.slice A sha.length c, .slice A' ea.length c'] 26)).alloc (.cells #[.slice B shb.length d, .slice B' eb.length d'] 26)).alloc (.cells #[.slice C shc.length f, .slice C' ec.length f'] 26)).alloc (.cells #[.slice none 0 0, .slice none 0 0] 26)
  have x0 := (((Box2.new w 26 (.slice A sha.length c) (.slice A' ea.length c')).alloc (.cells #[.slice B shb.length d, .slice B' eb.length d'] 26)).alloc (.cells #[.slice C shc.length f, .slice C' ec.length f'] 26)).alloc (.cells #[.slice none 0 0, .slice none 0 0] 26)
  have x1 := ((Box2.new (w.alloc (.cells #[.slice A sha.length c, .slice A' ea.length c'] 26)) 26 (.slice B shb.length d) (.slice B' eb.length d')).alloc (.cells #[.slice C shc.length f, .slice C' ec.length f'] 26)).alloc (.cells #[.slice none 0 0, .slice none 0 0] 26)
  have x2 := (Box2.new ((w.alloc (.cells #[.slice A sha.length c, .slice A' ea.length c'] 26)).alloc (.cells #[.slice B shb.length d, .slice B' eb.length d'] 26)) 26 (.slice C shc.length f) (.slice C' ec.length f')).alloc (.cells #[.slice none 0 0, .slice none 0 0] 26)
  have x3 := Box2.new (((w.alloc (.cells #[.slice A sha.length c, .slice A' ea.length c'] 26)).alloc (.cells #[.slice B shb.length d, .slice B' eb.length d'] 26)).alloc (.cells #[.slice C shc.length f, .slice C' ec.length f'] 26)) 26 (.slice none 0 0) (.slice none 0 0)
  simp only [World.size_alloc] at x1 x2 x3
  have I0 : GMI w (.slice A sha.length c) (.slice A' ea.length c') (.slice B shb.length d) (.slice B' eb.length d') (.slice C shc.length f) (.slice C' ec.length f') sha ea shb eb shc ec _ := ⟨ha.up Im_pos (Nat.le_refl _) (F0 _), hea.up Rm_pos (Nat.le_refl _) (F0 _), hb.up Im_pos (Nat.le_refl _) (F0 _), heb.up Rm_pos (Nat.le_refl _) (F0 _), hc.up Im_pos (Nat.le_refl _) (F0 _), hec.up Rm_pos (Nat.le_refl _) (F0 _), x0, x1, x2, x3, F0 _⟩
  have hx := I0.keep ((Fr.refl (fun _ => True) _).alloc (.cells #[.slice A sha.length c, .slice A' ea.length c', .slice B shb.length d, .slice B' eb.length d', .slice C shc.length f, .slice C' ec.length f'] 26)) fun _ _ => trivial
  have I1 := Lib.hid hx
  have hrow := heap_alloc_new ((((w.alloc (.cells #[.slice A sha.length c, .slice A' ea.length c'] 26)).alloc (.cells #[.slice B shb.length d, .slice B' eb.length d'] 26)).alloc (.cells #[.slice C shc.length f, .slice C' ec.length f'] 26)).alloc (.cells #[.slice none 0 0, .slice none 0 0] 26)) (.cells #[.slice A sha.length c, .slice A' ea.length c', .slice B shb.length d, .slice B' eb.length d', .slice C shc.length f, .slice C' ec.length f'] 26)
  simp only [World.size_alloc] at hrow
  have HROW := Lib.hid hrow
  have a0 := I0.x0.c0
  have a1 := I0.x0.c1
  have a2 := I0.x1.c0
  have a3 := I0.x1.c1
  have a4 := I0.x2.c0
  have a5 := I0.x2.c1
  obtain ⟨ra, hra⟩ : ∃ r, mayT sha ea = r := ⟨_, rfl⟩
  obtain ⟨rb, hrb⟩ : ∃ r, mayT shb eb = r := ⟨_, rfl⟩
  obtain ⟨rc, hrc⟩ : ∃ r, mayT shc ec = r := ⟨_, rfl⟩
  have HRa := Lib.hid hra
  have HRb := Lib.hid hrb
  have HRc := Lib.hid hrc
  have HLa := Lib.hid hLa
  have HLb := Lib.hid hLb
  have HLc := Lib.hid hLc
  clear ha hea hb heb hc hec F0 x0 x1 x2 x3 I0 hrow hra hrb hrc hLa hLb hLc hx
  go_enter Tryz.func26, Tryz.ntmps26
  go_wp2_with fail
  clear a0 a1 a2 a3 a4 a5
  go_loopw [23] (fun i wr => ∃ (k : Nat), k ≤ 3 ∧ i = .int .i64 k ∧ (0 < k → ra = 0) ∧ (1 < k → rb = 0) ∧ (2 < k → rc = 0) ∧ Hid (GMI w (.slice A sha.length c) (.slice A' ea.length c') (.slice B shb.length d) (.slice B' eb.length d') (.slice C shc.length f) (.slice C' ec.length f') sha ea shb eb shc ec wr) ∧ Hid (wr.heap[w.heap.size + 1 + 1 + 1 + 1]? = some (.cells #[.slice A sha.length c, .slice A' ea.length c', .slice B shb.length d, .slice B' eb.length d', .slice C shc.length f, .slice C' ec.length f'] 26 (0, 0)))) (fun i _ => 3 - (intOf i).toNat)
  case atStart => exact ⟨0, by omega, rfl, fun h => by omega, fun h => by omega, fun h => by omega, I1, HROW⟩
  case round =>
    clear I1 HROW
    obtain ⟨k, hk, rfl, hk0, hk1, hk2, I1, HROW⟩ := hrel
    have c0 := cell_of_row wr _ 0 _ _ (0, 0) HROW.out
    have c1 := cell_of_row wr _ 1 _ _ (0, 0) HROW.out
    have c2 := cell_of_row wr _ 2 _ _ (0, 0) HROW.out
    have c3 := cell_of_row wr _ 3 _ _ (0, 0) HROW.out
    have c4 := cell_of_row wr _ 4 _ _ (0, 0) HROW.out
    have c5 := cell_of_row wr _ 5 _ _ (0, 0) HROW.out
    simp only [List.getElem?_toArray, List.getElem?_cons_zero, List.getElem?_cons_succ] at c0 c1 c2 c3 c4 c5
    have lt := I1.out.lt
    have ltr := lt_of_block HROW.out
    obtain rfl | rfl | rfl | rfl : k = 0 ∨ k = 1 ∨ k = 2 ∨ k = 3 := by omega
    · clear hk0 hk1 hk2
      have I2 := I1.out.keep ((Fr.refl (fun _ => True) wr).alloc (.cells #[.slice A sha.length c, .slice A' ea.length c'] 26)) (fun _ _ => trivial)
      have HR2 := Lib.hid ((Below.heap_alloc wr (.cells #[.slice A sha.length c, .slice A' ea.length c'] 26) _ ltr).trans HROW.out)
      have PP := Lib.hid (may_t (wr.alloc (.cells #[.slice A sha.length c, .slice A' ea.length c'] 26)) (.slice A sha.length c) (.slice A' ea.length c') sha ea L I2.a1 I2.a2 HLa.out hL1 hl)
      rw [HRa.out] at PP
      have HI2 := Lib.hid I2
      have ltr2 := lt_of_block HR2.out
      clear I1 HROW I2
      go_wp2_with fail
      with_reducible refine PP.out.mono ?_
      rintro e w2 ⟨rfl, hf⟩
      have I3 := Lib.hid (HI2.out.keep hf (fun k hk => by have := HI2.out.lt; omega))
      have HR3 := Lib.hid (hf.obj HR2.out ltr2)
      clear HI2 HR2 PP hf
      by_cases h0 : ra = 0
      · subst h0
        go_wp2_with fail
        go_roundw
        case rel => exact ⟨1, by omega, rfl, fun _ => by first | rfl | trivial, fun h => by omega, fun h => by omega, I3, HR3⟩
        case measure => first | (simp [intOf]; done) | (simp [intOf]; omega)
      · have HN : r = ra := hr.out.symm.trans ((gemE_a (by rw [HRa.out]; exact h0)).trans HRa.out)
        have x3 := I3.out.x3
        have F8 := I3.out.fr
        have hb0 : (ra == 0) = false := beq_eq_false_iff_ne.2 h0
        go_wp2_with ((with_reducible apply wpList_st2); rfl; rfl; exact x3; exact ten2; rfl; rfl; intro w9 B9 F9)
        refine bodyPost_ret (results_cell2_tmp rfl rfl B9 Tryz.underlying26 ten2) rfl ?_
        exact ⟨none, 0, 0, none, 0, 0, by first | rfl | (rw [HN]; rfl), fun _ => ⟨rfl, rfl⟩, fun h => absurd (HN.symm.trans h) h0, F8.comp F9 fun k _ hk => ⟨hk, by omega⟩⟩
    · have z0 := hk0 (by omega)
      subst z0
      clear hk0 hk1 hk2
      have I2 := I1.out.keep ((Fr.refl (fun _ => True) wr).alloc (.cells #[.slice B shb.length d, .slice B' eb.length d'] 26)) (fun _ _ => trivial)
      have HR2 := Lib.hid ((Below.heap_alloc wr (.cells #[.slice B shb.length d, .slice B' eb.length d'] 26) _ ltr).trans HROW.out)
      have PP := Lib.hid (may_t (wr.alloc (.cells #[.slice B shb.length d, .slice B' eb.length d'] 26)) (.slice B shb.length d) (.slice B' eb.length d') shb eb L I2.b1 I2.b2 HLb.out hL1 hl)
      rw [HRb.out] at PP
      have HI2 := Lib.hid I2
      have ltr2 := lt_of_block HR2.out
      clear I1 HROW I2
      go_wp2_with fail
      with_reducible refine PP.out.mono ?_
      rintro e w2 ⟨rfl, hf⟩
      have I3 := Lib.hid (HI2.out.keep hf (fun k hk => by have := HI2.out.lt; omega))
      have HR3 := Lib.hid (hf.obj HR2.out ltr2)
      clear HI2 HR2 PP hf
      by_cases h0 : rb = 0
      · subst h0
        go_wp2_with fail
        go_roundw
        case rel => exact ⟨2, by omega, rfl, fun _ => by first | rfl | trivial, fun _ => by first | rfl | trivial, fun h => by omega, I3, HR3⟩
        case measure => first | (simp [intOf]; done) | (simp [intOf]; omega)
      · have HN : r = rb := hr.out.symm.trans ((gemE_b HRa.out (by rw [HRb.out]; exact h0)).trans HRb.out)
        have x3 := I3.out.x3
        have F8 := I3.out.fr
        have hb0 : (rb == 0) = false := beq_eq_false_iff_ne.2 h0
        go_wp2_with ((with_reducible apply wpList_st2); rfl; rfl; exact x3; exact ten2; rfl; rfl; intro w9 B9 F9)
        refine bodyPost_ret (results_cell2_tmp rfl rfl B9 Tryz.underlying26 ten2) rfl ?_
        exact ⟨none, 0, 0, none, 0, 0, by first | rfl | (rw [HN]; rfl), fun _ => ⟨rfl, rfl⟩, fun h => absurd (HN.symm.trans h) h0, F8.comp F9 fun k _ hk => ⟨hk, by omega⟩⟩
    · have z0 := hk0 (by omega)
      subst z0
      have z1 := hk1 (by omega)
      subst z1
      clear hk0 hk1 hk2
      have I2 := I1.out.keep ((Fr.refl (fun _ => True) wr).alloc (.cells #[.slice C shc.length f, .slice C' ec.length f'] 26)) (fun _ _ => trivial)
      have HR2 := Lib.hid ((Below.heap_alloc wr (.cells #[.slice C shc.length f, .slice C' ec.length f'] 26) _ ltr).trans HROW.out)
      have PP := Lib.hid (may_t (wr.alloc (.cells #[.slice C shc.length f, .slice C' ec.length f'] 26)) (.slice C shc.length f) (.slice C' ec.length f') shc ec L I2.c1 I2.c2 HLc.out hL1 hl)
      rw [HRc.out] at PP
      have HI2 := Lib.hid I2
      have ltr2 := lt_of_block HR2.out
      clear I1 HROW I2
      go_wp2_with fail
      with_reducible refine PP.out.mono ?_
      rintro e w2 ⟨rfl, hf⟩
      have I3 := Lib.hid (HI2.out.keep hf (fun k hk => by have := HI2.out.lt; omega))
      have HR3 := Lib.hid (hf.obj HR2.out ltr2)
      clear HI2 HR2 PP hf
      by_cases h0 : rc = 0
      · subst h0
        go_wp2_with fail
        go_roundw
        case rel => exact ⟨3, by omega, rfl, fun _ => by first | rfl | trivial, fun _ => by first | rfl | trivial, fun _ => by first | rfl | trivial, I3, HR3⟩
        case measure => first | (simp [intOf]; done) | (simp [intOf]; omega)
      · have HN : r = rc := hr.out.symm.trans ((gemE_c HRa.out HRb.out (by rw [HRc.out]; exact h0)).trans HRc.out)
        have x3 := I3.out.x3
        have F8 := I3.out.fr
        have hb0 : (rc == 0) = false := beq_eq_false_iff_ne.2 h0
        go_wp2_with ((with_reducible apply wpList_st2); rfl; rfl; exact x3; exact ten2; rfl; rfl; intro w9 B9 F9)
        refine bodyPost_ret (results_cell2_tmp rfl rfl B9 Tryz.underlying26 ten2) rfl ?_
        exact ⟨none, 0, 0, none, 0, 0, by first | rfl | (rw [HN]; rfl), fun _ => ⟨rfl, rfl⟩, fun h => absurd (HN.symm.trans h) h0, F8.comp F9 fun k _ hk => ⟨hk, by omega⟩⟩
    · have z0 := hk0 (by omega)
      have z1 := hk1 (by omega)
      have z2 := hk2 (by omega)
      subst z0 z1 z2
      clear hk0 hk1 hk2 c0 c1 c2 c3 c4 c5 HROW
      have F := I1.out.fr
      have x0 := I1.out.x0
      have x1 := I1.out.x1
      have x2 := I1.out.x2
      have x3 := I1.out.x3
      obtain ⟨rm, hrm⟩ : ∃ r, mmE sha ea shb eb = r := ⟨_, rfl⟩
      have HRM := Lib.hid hrm
      rw [hrm] at hK
      have PM := Lib.hid (mm_t wr (.slice A sha.length c) (.slice A' ea.length c') (.slice B shb.length d) (.slice B' eb.length d') sha shb ea eb L K rm HRM I1.out.a1 I1.out.a2 I1.out.b1 I1.out.b2 HLa.out HLb.out hL1 hKL hK6 hK)
      rw [hqs.out, hda.out, hdc.out] at PM
      clear hrm
      have a0 := x0.c0
      have a1 := x0.c1
      have a2 := x1.c0
      have a3 := x1.c1
      clear I1 ltr
      go_wp2_with fail
      with_reducible refine PM.out.mono ?_
      rintro e W3 ⟨P1, i1, k1, P2, i2, k2, rfl, hno, hown, hf⟩
      clear a0 a1 a2 a3 PM x0 x1
      have s3 := hf.size
      replace x2 := x2.keep hf
      replace x3 := x3.keep hf
      replace F := fr_then F hf
      have al := fun R => (Fr.refl R W3).alloc (.cells #[.slice P1 i1 k1, .slice P2 i2 k2] 26)
      have x11 := Box2.new W3 26 (.slice P1 i1 k1) (.slice P2 i2 k2)
      have l3 := x3.lt
      replace x2 := x2.keep (al _)
      replace x3 := x3.keep (al _)
      replace F := fr_then F (al _)
      have HOWN : Hid (rm = 0 → Own Im 3 (fun k => w.heap.size + 4 ≤ k ∧ k ≠ W3.heap.size) (W3.alloc (.cells #[.slice P1 i1 k1, .slice P2 i2 k2] 26)) (.slice P1 i1 k1) [da, dc] ∧ Own Rm 54 (fun k => w.heap.size + 4 ≤ k ∧ k ≠ W3.heap.size) (W3.alloc (.cells #[.slice P1 i1 k1, .slice P2 i2 k2] 26)) (.slice P2 i2 k2) (qs.map canR)) := Lib.hid fun h0 =>
        ⟨((hown h0).1.bd.mono (T := fun k => w.heap.size + 4 ≤ k ∧ k ≠ W3.heap.size) fun k hk => ⟨by omega, by omega⟩).fr (al _), ((hown h0).2.rm.bd.mono (T := fun k => w.heap.size + 4 ≤ k ∧ k ≠ W3.heap.size) fun k hk => ⟨by omega, by omega⟩).fr (al _)⟩
      clear hno hown hf al
      by_cases h0 : rm = 0
      case neg =>
        have HN : r = rm := hr.out.symm.trans ((gemE_m HRa.out HRb.out HRc.out (by rw [HRM.out]; exact h0)).trans HRM.out)
        have hb0 : (rm == 0) = false := beq_eq_false_iff_ne.2 h0
        have F8 := F
        go_wp2_with ((with_reducible apply wpList_st2); rfl; rfl; exact x3; exact ten2; rfl; rfl; intro w9 B9 F9)
        refine bodyPost_ret (results_cell2_tmp rfl rfl B9 Tryz.underlying26 ten2) rfl ?_
        exact ⟨none, 0, 0, none, 0, 0, by first | rfl | (rw [HN]; rfl), fun _ => ⟨rfl, rfl⟩, fun h => absurd (HN.symm.trans h) h0, F8.comp F9 fun k _ hk => ⟨hk, by omega⟩⟩
      subst h0
      obtain ⟨oS, oE⟩ := HOWN.out rfl
      have HQ := Lib.hid (show qs.length = da.toNat * dc.toNat by rw [← hqs.out, mmL_len, hda.out, hdc.out])
      have HF := Lib.hid ((gemE_f HRa.out HRb.out HRc.out HRM.out).symm.trans hr.out)
      rw [hda.out, hdc.out] at HF
      have PF := Lib.hid (shfits_t _ (.slice C shc.length f) (.slice P1 i1 k1) shc [da, dc] r HF (HC01.out.fr F) oS.sl)
      clear HOWN
      have HQS := hqs
      have a0 := x2.c0
      have b0 := x11.c0
      go_wp2_with fail
      obtain ⟨b11, hb11⟩ : ∃ b, W3.heap.size = b := ⟨_, rfl⟩
      rw [hb11] at x11 oS oE l3 b0 ⊢
      clear hb11
      generalize W3.alloc (.cells #[.slice P1 i1 k1, .slice P2 i2 k2] 26) = W4 at PF x2 x3 x11 oS oE F a0 b0 ⊢
      with_reducible refine PF.out.mono ?_
      rintro e W5 ⟨rfl, hf⟩
      clear a0 b0 PF
      have l11 := x11.lt
      replace x2 := x2.keep hf
      replace x3 := x3.keep hf
      replace x11 := x11.keep hf
      replace oS := oS.keep' hf
      replace oE := oE.keep' hf
      replace F := fr_then F hf
      clear hf
      by_cases h0 : r = 0
      case neg =>
        have hb0 : (r == 0) = false := beq_eq_false_iff_ne.2 h0
        have F8 := F
        go_wp2_with ((with_reducible apply wpList_st2); rfl; rfl; exact x3; exact ten2; rfl; rfl; intro w9 B9 F9)
        refine bodyPost_ret (results_cell2_tmp rfl rfl B9 Tryz.underlying26 ten2) rfl ?_
        exact ⟨none, 0, 0, none, 0, 0, rfl, fun _ => ⟨rfl, rfl⟩, fun h => absurd h h0, F8.comp F9 fun k _ hk => ⟨hk, by omega⟩⟩
      subst h0
      have hfo := fits_ok HF.out
      have hmS := hfo.2.1
      obtain ⟨hd2, hd1, hdN⟩ := mayS_ok hmS
      have hda1 := hd1 da (by simp)
      have hdc1 := hd1 dc (by simp)
      have hpr : pr [da, dc] = da * dc := by simp [pr]
      obtain ⟨N, hN⟩ : ∃ N, qs.length = N := ⟨_, rfl⟩
      have hprN : pr [da, dc] = (N : Int) := by
        rw [hpr, ← hN, HQ.out, Int.natCast_mul, Int.toNat_of_nonneg (by omega), Int.toNat_of_nonneg (by omega)]
      have hN1024 : N ≤ 1024 := by rw [hprN] at hdN; omega
      have hN0 : 0 < N := by have := Int.mul_pos (show 0 < da by omega) (show 0 < dc by omega); rw [← hpr, hprN] at this; omega
      have hbase := own_base oE (by rw [List.length_map]; omega)
      rw [List.length_map, hN] at hbase
      obtain ⟨hi2, g, rfl⟩ := hbase
      replace hi2 := hi2.symm
      subst hi2
      have hgn : some g ≠ (Value.slice P1 i1 k1).ownBlock := fun e => own_apart oE oS (by decide) g rfl e.symm
      have hS1 := oE.in_ g rfl
      have oS' := (oS.offI hgn).mono (T := fun k => w.heap.size + 4 ≤ k ∧ k ≠ g ∧ k ≠ b11) fun k hk => ⟨hk.1.1, hk.2, hk.1.2⟩
      have HFO := Lib.hid hfo
      have HMS := Lib.hid hmS
      have HPR := Lib.hid hprN
      have HD1 := Lib.hid hd1
      have HNN := Lib.hid hN
      rw [hN]
      rw [← gemL_0 (qs := qs) (qc := ec.map qOf) (shc := shc) (sh := [da, dc])] at oE
      clear hfo hmS hprN hd1 hdN hpr oS HQ
      have a1 := x11.c1
      go_wp2_with fail
      clear a1
      go_loopw [56] (fun i wr => ∃ (j : Nat), j ≤ N ∧ i = .int .i64 j ∧ Box2 wr (w.heap.size + 2) 26 (.slice C shc.length f) (.slice C' ec.length f') ∧ Box2 wr (w.heap.size + 3) 26 (.slice none 0 0) (.slice none 0 0) ∧ Box2 wr b11 26 (.slice P1 i1 k1) (.slice (some ⟨g, 0, none⟩) N k2) ∧ Own Im 3 (fun k => w.heap.size + 4 ≤ k ∧ k ≠ g ∧ k ≠ b11) wr (.slice P1 i1 k1) [da, dc] ∧ Own Rm 54 (fun k => w.heap.size + 4 ≤ k ∧ k ≠ b11) wr (.slice (some ⟨g, 0, none⟩) N k2) ((gemL qs (ec.map qOf) shc [da, dc] j).map canR) ∧ Fr (fun k => k < w.heap.size) w wr) (fun i _ => N - (intOf i).toNat)
      case atStart => exact ⟨0, Nat.zero_le _, rfl, x2, x3, x11, oS', oE, F⟩
      case round =>
        clear x2 x3 x11 oS' oE F
        obtain ⟨j, hj, rfl, x2, x3, x11, oS, oE, F⟩ := hrel
        by_cases hlt : j < N
        case neg =>
          obtain rfl : j = N := by omega
          have a0 := x11.c0
          have a1 := x11.c1
          go_wp2_with ((with_reducible apply wpList_st2); rfl; rfl; exact x3; exact ten2; rfl; rfl; intro w9 B9 F9)
          refine bodyPost_ret (results_cell2_tmp rfl rfl B9 Tryz.underlying26 ten2) rfl ?_
          rw [HNN.out]
          exact ⟨_, _, _, _, _, _, rfl, fun h => absurd rfl h, fun _ => ⟨(oS.past F9 fun k hk => by omega).mono fun k hk => by omega, (oE.past F9 fun k hk => by omega).mono fun k hk => by omega⟩, F.comp F9 fun k _ hk => ⟨hk, by omega⟩⟩
        obtain ⟨qo, hqo⟩ : ∃ q, qs.getD j 0 = q := ⟨_, rfl⟩
        have hlN : ((gemL qs (ec.map qOf) shc [da, dc] j).map canR).length = N := by rw [List.length_map, gemL_len, HNN.out]
        have hsl := oE.sl
        rw [show Value.slice (some ⟨g, 0, none⟩) N k2 = Value.slice (some ⟨g, 0, none⟩) ((gemL qs (ec.map qOf) shc [da, dc] j).map canR).length k2 by rw [hlN]] at hsl
        obtain ⟨ad1, P1', n1, d1, Q1, m1, o1, hA1, hSS1, z0, z1, z2, t1, t2⟩ := Rm_get hsl (i := j) (by rw [hlN]; exact hlt)
        cases hA1
        have hge : ((gemL qs (ec.map qOf) shc [da, dc] j).map canR)[j]'(by rw [hlN]; exact hlt) = canR qo := by
          rw [List.getElem_map, ← hqo, ← gemL_at (qs := qs) (qc := ec.map qOf) (shc := shc) (sh := [da, dc]) (j := j) (by rw [HNN.out]; exact hlt), List.getD_eq_getElem?_getD, List.getElem?_eq_getElem (by rw [gemL_len, HNN.out]; exact hlt)]
          rfl
        rw [hge] at z0 t1 t2
        rw [addr_lit, Nat.zero_add] at z0 z1 z2
        have HST := Lib.hid (gemL_step (qs := qs) (qc := ec.map qOf) (shc := shc) (sh := [da, dc]) (j := j) (by rw [HNN.out]; exact hlt))
        rw [hqo] at HST
        have hlK : Lens K qo := by
          rw [← hqo, ← HQS.out, mmL]
          by_cases h9 : j < (sha.getD 0 0).toNat * (shb.getD 1 0).toNat
          · rw [getD_map_range _ _ _ h9]
            exact hK.out (by first | rfl | trivial) j _ (Nat.le_refl _)
          · rw [List.getD_eq_getElem?_getD, List.getElem?_eq_none (by rw [List.length_map, List.length_range]; omega)]
            exact lens_0 (by omega)
        clear hge hqo hsl
        replace z0 : wr.cell? ⟨g, j * 3, none⟩ = some (.bool (sg qo)) := z0
        obtain ⟨so, hso⟩ : ∃ s, sg qo = s := ⟨_, rfl⟩
        have HSO := Lib.hid hso
        rw [hso] at z0
        clear hso
        have al := fun R => (Fr.refl R wr).alloc (.cells #[.bool so, .slice P1' n1 d1, .slice Q1 m1 o1] 54)
        have xy := Box3.new wr 54 (.bool so) (.slice P1' n1 d1) (.slice Q1 m1 o1)
        have z0' := z0
        have z1' := z1
        have z2' := z2
        have hgw : g < wr.heap.size := oE.lt g rfl
        replace z0 := (al (fun k => k < wr.heap.size)).cell z0 hgw
        replace z1 := (al (fun k => k < wr.heap.size)).cell z1 hgw
        replace z2 := (al (fun k => k < wr.heap.size)).cell z2 hgw
        have a1 := x11.c1
        replace x2 := x2.keep (al _)
        replace x3 := x3.keep (al _)
        replace x11 := x11.keep (al _)
        replace oS := oS.keep' (al _)
        replace oE := oE.keep' (al _)
        replace t1 := (t1.low Lm_pos).keep' Lm_pos (al _)
        replace t2 := (t2.low Lm_pos).keep' Lm_pos (al _)
        replace F := fr_then F (al _)
        have b0 := x11.c0
        have PI := Lib.hid (shindex_t _ (.slice P1 i1 k1) [da, dc] j oS.sl HMS (Lib.hid (by rw [HPR.out]; omega)))
        go_wp2_with fail
        clear a1 b0 z0' z1' z2'
        obtain ⟨b15, hb15⟩ : ∃ b, wr.heap.size = b := ⟨_, rfl⟩
        rw [hb15] at xy
        have l15 := xy.lt
        generalize wr.alloc (.cells #[.bool so, .slice P1' n1 d1, .slice Q1 m1 o1] 54) = W at PI x2 x3 x11 oS oE F z0 z1 z2 t1 t2 xy l15 ⊢
        with_reducible refine PI.out.mono ?_
        rintro e u ⟨E, ie, ke, rfl, oI, hf⟩
        have D := fun R => (Fr.refl R u).drew
        have s4 := hf.size
        have hgW : g < W.heap.size := oE.lt g rfl
        replace z0 := hf.cell z0 hgW
        replace z1 := hf.cell z1 hgW
        replace z2 := hf.cell z2 hgW
        replace x2 := (x2.keep hf).fr (D (fun _ => True)) trivial
        replace x3 := (x3.keep hf).fr (D (fun _ => True)) trivial
        replace x11 := (x11.keep hf).fr (D (fun _ => True)) trivial
        replace oS := (oS.keep' hf).fr (D _)
        replace oE := (oE.keep' hf).fr (D _)
        replace t1 := (t1.keep' Lm_pos hf).fr (D _)
        replace t2 := (t2.keep' Lm_pos hf).fr (D _)
        replace oI := oI.bd.fr (D _)
        replace xy := (Box3.keep xy hf).fr (D (fun _ => True)) trivial
        replace F := (fr_then F hf).drew
        have RO : RI (fun k => k < u.drew.heap.size) u.drew (sg qo) (.slice P1' n1 d1) (.slice Q1 m1 o1) qo (val (canR qo).2.1) (val (canR qo).2.2) K := by
          have := ri_x (x := canR qo) (t1.low Lm_pos) (t2.low Lm_pos) ⟨hlK.1, hlK.2⟩
          rwa [qOf_can] at this
        have hsp := spr_ok (sh := [da, dc]) HRc.out HFO.out.2.2.1 HD1.out (k := j) (by rw [HPR.out]; omega)
        have hil : (seqI [da, dc] j).length ≤ 1099511627000 := by rw [hsp.1]; have := HFO.out.2.2.1; simp at this ⊢; omega
        have PSP := Lib.hid (spread_t u.drew (.slice C shc.length f) (.slice C' ec.length f') (.slice E ie ke) shc (seqI [da, dc] j) ec L (([da, dc] : List Int).length - shc.length) (Lib.hid hsp.1) (Lib.hid hsp.2) (S := fun k => k < w.heap.size) (T := fun k => k < w.heap.size) (HC01.out.fr F) (HC02.out.fr F) oI.sl (dims_le HFO.out.1) hil HLc.out hL1 hl)
        obtain ⟨ss, hss⟩ : ∃ k, ([da, dc] : List Int).length - shc.length = k := ⟨_, rfl⟩
        have hgu : g < u.drew.heap.size := oE.lt g rfl
        have KS : ∀ v, Fr (fun k => k < u.drew.heap.size) u.drew v → v.cell? ⟨g, j * 3, none⟩ = some (.bool so) ∧ v.cell? ⟨g, j * 3 + 1, none⟩ = some (.slice P1' n1 d1) ∧ v.cell? ⟨g, j * 3 + 2, none⟩ = some (.slice Q1 m1 o1) ∧ v.cell? ⟨b11, 1, none⟩ = some (.slice (some ⟨g, 0, none⟩) N k2) ∧ v.cell? ⟨b15, 0, none⟩ = some (.bool so) ∧ v.cell? ⟨b15, 1, none⟩ = some (.slice P1' n1 d1) ∧ v.cell? ⟨b15, 2, none⟩ = some (.slice Q1 m1 o1) ∧ v.cell? ⟨w.heap.size + 2, 0, none⟩ = some (.slice C shc.length f) ∧ v.cell? ⟨w.heap.size + 2, 1, none⟩ = some (.slice C' ec.length f') := fun v h =>
          ⟨h.cell z0 hgu, h.cell z1 hgu, h.cell z2 hgu, (x11.keep h).c1, (Box3.keep xy h).c0, (Box3.keep xy h).c1, (Box3.keep xy h).c2, (x2.keep h).c0, (x2.keep h).c1⟩
        have S0 := KS _ (Fr.refl _ _)
        clear hf D z0 z1 z2 t1 t2 oI hil hsp hss
        have lA : w.heap.size + 4 ≤ g := hS1.1
        have sU : u.drew.heap.size = u.heap.size := rfl
        have RO := Lib.hid RO
        have l11 := x11.lt
        go_wp2_with fail
        refine wpTill.begin (fun v => v.cell? ⟨g, j * 3, none⟩ = some (.bool so) ∧ v.cell? ⟨g, j * 3 + 1, none⟩ = some (.slice P1' n1 d1) ∧ v.cell? ⟨g, j * 3 + 2, none⟩ = some (.slice Q1 m1 o1) ∧ v.cell? ⟨b11, 1, none⟩ = some (.slice (some ⟨g, 0, none⟩) N k2) ∧ v.cell? ⟨b15, 0, none⟩ = some (.bool so) ∧ v.cell? ⟨b15, 1, none⟩ = some (.slice P1' n1 d1) ∧ v.cell? ⟨b15, 2, none⟩ = some (.slice Q1 m1 o1) ∧ v.cell? ⟨w.heap.size + 2, 0, none⟩ = some (.slice C shc.length f) ∧ v.cell? ⟨w.heap.size + 2, 1, none⟩ = some (.slice C' ec.length f')) 9 (by kernel_rfl) ?_
        change wpTill _ _ _ _ _ _ 10 _ _ _
        refine wpTill.take 0 (.pointer (some ⟨b11, 1, none⟩)) rfl (by kernel_rfl) (by kernel_rfl) (fun _ _ _ h => h) S0 (by rfl) (fun u hu => by go_simp) ?_
        try simp only [Act.put, List.setIfInBounds_toArray, List.set_cons_zero, List.set_cons_succ]
        refine wpTill.take 1 (.slice (some ⟨g, 0, none⟩) N k2) rfl (by kernel_rfl) (by kernel_rfl) (fun _ _ _ h => h) S0 (by rfl) (fun u hu => by go_simp) ?_
        try simp only [Act.put, List.setIfInBounds_toArray, List.set_cons_zero, List.set_cons_succ]
        refine wpTill.take 2 (.int .i64 (j : Int)) rfl (by kernel_rfl) (by kernel_rfl) (fun _ _ _ h => h) S0 (by rfl) (fun u hu => by go_simp) ?_
        try simp only [Act.put, List.setIfInBounds_toArray, List.set_cons_zero, List.set_cons_succ]
        refine wpTill.take 3 (.agg #[.bool so, .slice P1' n1 d1, .slice Q1 m1 o1]) rfl (by kernel_rfl) (by kernel_rfl) (fun _ _ _ h => h) S0 (by rfl) (fun u hu => by go_simp) ?_
        try simp only [Act.put, List.setIfInBounds_toArray, List.set_cons_zero, List.set_cons_succ]
        refine wpTill.take 4 (.agg #[.slice C shc.length f, .slice C' ec.length f']) rfl (by kernel_rfl) (by kernel_rfl) (fun _ _ _ h => h) S0 (by rfl) (fun u hu => by go_simp) ?_
        try simp only [Act.put, List.setIfInBounds_toArray, List.set_cons_zero, List.set_cons_succ]
        refine wpTill.take 5 (.slice E ie ke) rfl (by kernel_rfl) (by kernel_rfl) (fun _ _ _ h => h) S0 (by rfl) (fun u hu => by go_simp) ?_
        try simp only [Act.put, List.setIfInBounds_toArray, List.set_cons_zero, List.set_cons_succ]
        refine wpTill.next 6 rfl (by kernel_rfl) (by rfl) (fun KC hKC => ?_)
        go_simp
        with_reducible refine PSP.out.mono ?_
        rintro e u1 ⟨s8, v1, v2, rfl, h8, hf1⟩
        obtain ⟨hs8, h8⟩ := h8.out
        rw [← getD_q] at hs8 h8
        change s8 = sg (sprQ shc (ec.map qOf) [da, dc] j) at hs8
        change RV _ _ _ _ (sprQ shc (ec.map qOf) [da, dc] j) L at h8
        obtain ⟨⟨P8, n8, d8, rfl⟩, ⟨Q8, m8, o8, rfl⟩⟩ := h8.form
        have s1 := hf1.size
        have S0 := KS _ hf1
        refine hKC _ _ (fun _ => S0) ?_
        clear hKC KC
        try simp only [Act.put, List.setIfInBounds_toArray, List.set_cons_zero, List.set_cons_succ]
        have PADD := Lib.hid (add_h _ _ _ _ _ _ _ _ _ _ _ _ _ K (RO.out.fr (hf1.mono fun k _ hk => hk)) (h8.toRI (M := K) (by omega)) (by omega) hK6)
        rw [HSO.out] at PADD
        refine wpTill.next 7 rfl (by kernel_rfl) (by rfl) (fun KC hKC => ?_)
        go_simp
        with_reducible refine PADD.out.mono ?_
        rintro e u2 ⟨s9, v3, v4, rfl, hs9, h9, hf2⟩
        obtain ⟨⟨P9, n9, d9, rfl⟩, ⟨Q9, m9, o9, rfl⟩⟩ := h9.out.form
        have s2 := hf2.size
        have hf12 := fr_then hf1 hf2
        have S0 := KS _ hf12
        refine hKC _ _ (fun _ => S0) ?_
        clear hKC KC
        try simp only [Act.put, List.setIfInBounds_toArray, List.set_cons_zero, List.set_cons_succ]
        refine wpTill.take 8 (.pointer (some ⟨g, j * 3, none⟩)) rfl (by kernel_rfl) (by kernel_rfl) (fun _ _ _ h => h) S0 (by rfl) (fun u hu => by go_simp) ?_
        try simp only [Act.put, List.setIfInBounds_toArray, List.set_cons_zero, List.set_cons_succ]
        have HS9 := Lib.hid hs9.out
        have oE2 := oE.keep' hf12
        have f0 : u2.frozen? ⟨g, j * 3, none⟩ = false := Fz.free (a := ⟨g, j * 3, none⟩) (oE2.fz _ rfl)
        have f1 : u2.frozen? ⟨g, j * 3 + 1, none⟩ = false := Fz.free (a := ⟨g, j * 3 + 1, none⟩) (oE2.fz _ rfl)
        have f2 : u2.frozen? ⟨g, j * 3 + 2, none⟩ = false := Fz.free (a := ⟨g, j * 3 + 2, none⟩) (oE2.fz _ rfl)
        obtain ⟨c0, c1, c2, -⟩ := S0
        refine wpTill.next 9 rfl (by kernel_rfl) (by rfl) (fun KC hKC => ?_)
        go_simp
        refine hKC _ _ (no_wait (by kernel_rfl)) ?_
        clear hKC KC
        try simp only [Act.put, List.setIfInBounds_toArray, List.set_cons_zero, List.set_cons_succ]
        refine wpTill.done (by kernel_rfl) ?_
        have oN := oE2.set3 (i := j) (by rw [hlN]; exact hlt) (canR (qo + sprQ shc (ec.map qOf) [da, dc] j)) (h9.out.num.own.sl.mono (T := fun k => (w.heap.size + 4 ≤ k ∧ k ≠ b11) ∧ k ≠ g) fun k hk => ⟨⟨by omega, by omega⟩, by omega⟩) (h9.out.den.own.sl.mono (T := fun k => (w.heap.size + 4 ≤ k ∧ k ≠ b11) ∧ k ≠ g) fun k hk => ⟨⟨by omega, by omega⟩, by omega⟩)
        rw [← List.map_set, ← HST.out, show (canR (qo + sprQ shc (ec.map qOf) [da, dc] j)).1 = s9 from HS9.out.symm] at oN
        have FG : Fr (fun k => k ≠ g) u2 (((u2.setCell ⟨g, j * 3, none⟩ (.bool s9)).setCell ⟨g, j * 3 + 1, none⟩ (.slice P9 n9 d9)).setCell ⟨g, j * 3 + 2, none⟩ (.slice Q9 m9 o9)) := ((fr_set1 u2 g (j * 3) _).trans (fr_set1 _ g (j * 3 + 1) _)).trans (fr_set1 _ g (j * 3 + 2) _)
        have y2 := (x2.keep hf12).fr FG (by omega)
        have y3 := (x3.keep hf12).fr FG (by omega)
        have y11 := (x11.keep hf12).fr FG (fun e => hS1.2 e.symm)
        have yS := (oS.keep' hf12).past FG (fun k hk => hk.2.1)
        have FF := (fr_then F hf12).comp FG (R := fun k => k < w.heap.size) fun k _ hk => ⟨hk, by omega⟩
        clear f0 f1 f2 c0 c1 c2 KS
        go_wp2_with fail
        go_roundw
        case rel => exact ⟨j + 1, by omega, by go_num, y2, y3, y11, yS, oN, FF⟩
        case measure => first | (simp [intOf]; done) | (simp [intOf]; omega)
end Go.Proofs.YtlppcfeimpcbjaaGreat
