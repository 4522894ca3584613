/- Texts merged: PtV, PtY. -/
import Derived.Test.YtlknmoegngjpcaaGreatPointD
set_option linter.unusedSimpArgs false
set_option linter.unusedVariables false

/- The plain laws behind chapter 08's sums and products; law08's known. -/
namespace Go.Proofs.YtlknmoegngjpcaaGreat
open Go.RowKit

theorem TL.fit {S : Nat → Prop} {w : World} {v : Value} {sh : List Int} {es : List RatL} {L : Nat} (h : TL S w v sh es L) (hL : L ≤ 1048576) : Fit sh es (L + 2) := by
  obtain ⟨vs, ve, rfl, h1, h2⟩ := h.ex
  have ls := h.ls
  have le := h.le
  exact ⟨by omega, by omega, fun x hx => by have := h.lx x hx; omega, by omega, by omega, Rm_lt h2⟩
theorem Fit.fq {sh : List Int} {es : List RatL} {L : Nat} (h : Fit sh es (L + 2)) : FitQ sh (es.map qOf) (3 * (L + 2)) :=
  ⟨h.nsh, by rw [List.length_map]; exact h.nes, by omega, by have := h.top; omega⟩
theorem bothE_r0 (er : RatL → RatL → Int) (sha : List Int) (ea : List RatL) (shb : List Int) (eb : List RatL) (h : (if mayT sha ea ≠ 0 then mayT sha ea else mayT shb eb) ≠ 0) : bothE er sha ea shb eb = if mayT sha ea ≠ 0 then mayT sha ea else mayT shb eb := by
  by_cases h1 : mayT sha ea ≠ 0
  · rw [if_pos h1]; exact bothE_a h1
  · rw [if_neg h1] at h ⊢
    exact bothE_b (by simpa using h1) h
theorem first_0 {r1 r2 : Int} (h : (if r1 ≠ 0 then r1 else r2) = 0) : r1 = 0 ∧ r2 = 0 := by
  by_cases h1 : r1 ≠ 0
  · rw [if_pos h1] at h; exact absurd h h1
  · rw [if_neg h1] at h; exact ⟨by simpa using h1, h⟩
theorem may_same {sh : List Int} {ea eb : List RatL} (h1 : mayT sh ea = 0) (h2 : mayT sh eb = 0) : ea.length = eb.length := by
  have := (mayT_ok h1).2.1
  have := (mayT_ok h2).2.1
  omega
theorem bothE_len {er : RatL → RatL → Int} {sha : List Int} {ea : List RatL} {shb : List Int} {eb : List RatL} (h : bothE er sha ea shb eb = 0) : ea.length = eb.length := by
  by_cases h1 : mayT sha ea = 0
  · by_cases h2 : mayT shb eb = 0
    · by_cases h3 : sha = shb
      · subst h3; exact may_same h1 h2
      · rw [bothE_13 h1 h2 h3] at h; cases h
    · rw [bothE_b h1 h2] at h; exact absurd h h2
  · rw [bothE_a h1] at h; exact absurd h h1
theorem bothE_no {sha : List Int} {ea : List RatL} {shb : List Int} {eb : List RatL} (h1 : mayT sha ea = 0) (h2 : mayT shb eb = 0) : (if sha = shb then (0 : Int) else 13) = bothE noR sha ea shb eb := by
  by_cases h3 : sha = shb
  · rw [if_pos h3, bothE_0 h1 h2 h3 fun _ _ => rfl]
  · rw [if_neg h3, bothE_13 h1 h2 h3]
theorem bothE_div {sha : List Int} {ea : List RatL} {shb : List Int} {eb : List RatL} (h1 : mayT sha ea = 0) (h2 : mayT shb eb = 0) : (if sha = shb then (if ∀ p ∈ eb.map qOf, p ≠ 0 then (0 : Int) else 17) else 13) = bothE divR sha ea shb eb := by
  by_cases h3 : sha = shb
  · rw [if_pos h3]
    subst h3
    have hl := may_same h1 h2
    have hd : (∀ i, i < ea.length → divR (ea.getD i zR) (eb.getD i zR) = 0) ↔ ∀ p ∈ eb.map qOf, p ≠ 0 := by
      constructor
      · intro h p hp h0
        obtain ⟨x, hx, rfl⟩ := List.mem_map.1 hp
        obtain ⟨i, hi, rfl⟩ := List.mem_iff_getElem.1 hx
        have := h i (by omega)
        rw [show eb.getD i zR = eb[i] by rw [List.getD_eq_getElem?_getD, List.getElem?_eq_getElem hi]; rfl] at this
        unfold divR at this
        rw [if_pos h0] at this
        cases this
      · intro h i hi
        have hi' : i < eb.length := by omega
        rw [show eb.getD i zR = eb[i] by rw [List.getD_eq_getElem?_getD, List.getElem?_eq_getElem hi']; rfl]
        exact if_neg (h _ (List.mem_map.2 ⟨_, List.getElem_mem hi', rfl⟩))
    by_cases h4 : ∀ p ∈ eb.map qOf, p ≠ 0
    · rw [if_pos h4, bothE_0 h1 h2 rfl (hd.2 h4)]
    · rw [if_neg h4, bothE_17 h1 h2 rfl fun h => h4 (hd.1 h)]
  · rw [if_neg h3, bothE_13 h1 h2 h3]
theorem zip_map (f : Rat → Rat → Rat) (g : RatL → RatL → RatL) (hg : ∀ x y, g x y = canR (f (qOf x) (qOf y))) : ∀ (ea eb : List RatL), ea.length = eb.length → (List.range ea.length).map (zipG g ea eb) = (List.zipWith f (ea.map qOf) (eb.map qOf)).map canR := by
  intro ea eb h
  apply List.ext_getElem
  · simp [h]
  · intro i h1 h2
    simp only [List.length_map, List.length_range] at h1
    have h3 : i < eb.length := by omega
    simp only [List.getElem_map, List.getElem_range, List.getElem_zipWith]
    unfold zipG
    rw [hg, show ea.getD i zR = ea[i] by rw [List.getD_eq_getElem?_getD, List.getElem?_eq_getElem h1]; rfl, show eb.getD i zR = eb[i] by rw [List.getD_eq_getElem?_getD, List.getElem?_eq_getElem h3]; rfl]
theorem zip_add (ea eb : List RatL) (h : ea.length = eb.length) : (List.range ea.length).map (zipG addG ea eb) = (List.zipWith (fun (x y : Rat) => x + y) (ea.map qOf) (eb.map qOf)).map canR := zip_map _ _ (fun _ _ => rfl) ea eb h
theorem zip_sub (ea eb : List RatL) (h : ea.length = eb.length) : (List.range ea.length).map (zipG subG ea eb) = (List.zipWith (fun (x y : Rat) => x + y) (ea.map qOf) ((eb.map qOf).map (fun q => -q))).map canR := by
  rw [zip_map (fun x y => x - y) subG (fun _ _ => rfl) ea eb h, List.map_map, List.zipWith_map_right, List.zipWith_map_right]
  simp only [Rat.sub_eq_add_neg, Function.comp_apply]
theorem zip_mul (ea eb : List RatL) (h : ea.length = eb.length) : (List.range ea.length).map (zipG mulG ea eb) = (List.zipWith (fun (x y : Rat) => x * y) (ea.map qOf) (eb.map qOf)).map canR := zip_map _ _ (fun _ _ => rfl) ea eb h
theorem zip_div (ea eb : List RatL) (h : ea.length = eb.length) : (List.range ea.length).map (zipG divG ea eb) = (List.zipWith (fun (x y : Rat) => x / y) (ea.map qOf) (eb.map qOf)).map canR := zip_map _ _ (fun _ _ => rfl) ea eb h
end Go.Proofs.YtlknmoegngjpcaaGreat


/- law08's known: printed by gen_pty.py. -/
namespace Go.Proofs.YtlknmoegngjpcaaGreat
open Go.RowKit

theorem ints_hold (u : World) (t : TypeId) (xs : List Int) (cells : List Value) (hc : cells = xs.map (fun x => .int .i64 x)) (hx : ∀ x ∈ xs, -9223372036854775808 ≤ x ∧ x < 9223372036854775808) (hl : xs.length ≤ 1099511627000) : Hold (fun u' => IntG xs u' (.slice (some ⟨u.heap.size, 0, none⟩) xs.length xs.length)) (u.alloc (.cells cells.toArray t)) :=
  fun _ hu => ⟨_, _, _, rfl, ((sl_ints xs cells hc hx hl (heap_alloc_new u _)).keep' Im_pos hu).any⟩
theorem row_u {w : World} {ls : List Int} {v : Value} (h : IntG ls w v) (hl : ls.length ≤ 1099511627000) : Calls Tryz.prog 47 #[v] w (Ret w (Agg (QV [(ls.length : Int)] (ls.map fun z => fr z 2) 6))) := by
  obtain ⟨A, n, c, rfl, h⟩ := h
  refine (row_t w (.slice A n c) ls h hl).mono ?_
  rintro e u ⟨A1, i1, j1, B1, k1, l1, rfl, h1, h2, hf⟩
  exact ⟨_, rfl, hf, fun u' hu' => ⟨_, _, _, _, _, _, rfl, h1.keep' Im_pos hu', h2.keep' (Rk_pos 6) hu'⟩⟩
theorem is_u {w : World} {sh : List Int} {es : List RatL} {qs : List Rat} {K : Nat} {a b c d : Value} (h : TC 0 sh es w a b) (g : QV sh qs K w c d) (he : Hid (es = qs.map canR)) (hK : K ≤ 1099511620) : Calls Tryz.prog 48 #[.agg #[a, b], .int .i64 0, .agg #[c, d]] w (Ret w fun _ v => v = .bool true) :=
  (lis_t w c d a b sh qs K K g.1 g.2 h.tv.1 (by rw [← he.out]; exact h.tv.2) (Rk_len g.2) hK).mono fun _ _ h => Ret.eq h.1 h.2
theorem back_u {w : World} {sh : List Int} {qs : List Rat} {K : Nat} {a b : Value} (h : QV sh qs K w a b) (f : FitQ sh qs K) : Calls Tryz.prog 46 #[.agg #[a, b]] w (Ret w (Agg (TV sh (qs.map canR)))) := by
  refine (tback_t w a b sh qs K h.1 h.2 f.nsh f.nqs (by have := f.top; omega) fun q hq => by have := Rk_len h.2 q hq; have := f.top; omega).mono ?_
  rintro e u ⟨v1, v2, rfl, h1, h2, hf⟩
  obtain ⟨A, n, c, rfl⟩ := h1.form
  obtain ⟨B, m, k, rfl⟩ := h2.form
  exact ⟨_, rfl, hf, fun u' hu' => ⟨_, _, _, _, _, _, rfl, (h1.sl.keep' Im_pos hu').any, (h2.sl.keep' Rm_pos hu').any⟩⟩

def kx : List Rat := ([2, -4, 0] : List Int).map fun z => fr z 2
def ky : List Rat := ([1, 4, 6] : List Int).map fun z => fr z 2
def kxe : List RatL := kx.map canR
def kye : List RatL := ky.map canR
theorem kx_eq : kx = [1, -2, 0] := by decide +kernel
theorem ky_eq : ky = [mkRat 1 2, 2, 3] := by decide +kernel
theorem kq_small {q : Rat} (h : q.num.natAbs < LB) (h2 : q.den < LB) : (canR q).2.1.length ≤ 2 ∧ (canR q).2.2.length ≤ 2 :=
  ⟨Nat.le_trans (dg_len_le LB2 (k := 1) (by simpa using h)) (by decide), Nat.le_trans (dg_len_le LB2 (k := 1) (by simpa using h2)) (by decide)⟩
theorem kfit {l : List Rat} (hl : l.length ≤ 3) (h : ∀ q ∈ l, q.num.natAbs < LB ∧ q.den < LB) : Fit [3] (l.map canR) 2 :=
  ⟨by decide, by rw [List.length_map]; omega, fun x hx => by obtain ⟨q, hq, rfl⟩ := List.mem_map.1 hx; exact kq_small (h q hq).1 (h q hq).2, by decide, by decide, fun x hx => by obtain ⟨q, hq, rfl⟩ := List.mem_map.1 hx; exact ⟨dg_lt LB2 _, dg_lt LB2 _⟩⟩
theorem kx_fit : Fit [3] kxe 2 := kfit (by rw [kx_eq]; decide) (by rw [kx_eq]; decide)
theorem ky_fit : Fit [3] kye 2 := kfit (by rw [ky_eq]; decide) (by rw [ky_eq]; decide +kernel)
theorem k_may {l : List Rat} (h : l.length = 3) : mayT [3] (l.map canR) = 0 := mayT_0 (by rw [List.length_map, h]; decide) fun x hx => by
  obtain ⟨q, _, rfl⟩ := List.mem_map.1 hx
  exact like_can _
theorem kx_may : mayT [3] kxe = 0 := k_may (by rw [kx_eq]; rfl)
theorem ky_may : mayT [3] kye = 0 := k_may (by rw [ky_eq]; rfl)
theorem k_q (l : List Rat) : (l.map canR).map qOf = l := by
  rw [List.map_map]
  exact (List.map_congr_left fun q _ => qOf_can q).trans (List.map_id l)
theorem k_len : kxe.length = kye.length := by unfold kxe kye; rw [kx_eq, ky_eq]; rfl
theorem k_add : (List.range kxe.length).map (zipG addG kxe kye) = (([3, 0, 6] : List Int).map fun z => fr z 2).map canR := by
  rw [zip_add kxe kye k_len]
  unfold kxe kye
  rw [k_q, k_q]
  exact congrArg (List.map canR) (by decide +kernel)
theorem k_div : (List.range kxe.length).map (zipG divG kxe kye) = (([4, -2, 0] : List Int).map fun z => fr z 2).map canR := by
  rw [zip_div kxe kye k_len]
  unfold kxe kye
  rw [k_q, k_q]
  exact congrArg (List.map canR) (by decide +kernel)
theorem k_relu : (kxe.map fun x => canR (if (qOf x).num.sign < 0 then 0 else qOf x)) = (([2, 0, 0] : List Int).map fun z => fr z 2).map canR := by
  have : (kxe.map fun x => canR (if (qOf x).num.sign < 0 then 0 else qOf x)) = ((kxe.map qOf).map fun q => if q.num.sign < 0 then 0 else q).map canR := by rw [List.map_map, List.map_map]; rfl
  rw [this]
  unfold kxe
  rw [k_q]
  exact congrArg (List.map canR) (by decide +kernel)
theorem k_step : (kxe.map fun x => canR ((max (qOf x).num.sign 0 : Int) : Rat)) = (([2, 0, 0] : List Int).map fun z => fr z 2).map canR := by
  have : (kxe.map fun x => canR ((max (qOf x).num.sign 0 : Int) : Rat)) = ((kxe.map qOf).map fun q => ((max q.num.sign 0 : Int) : Rat)).map canR := by rw [List.map_map, List.map_map]; rfl
  rw [this]
  unfold kxe
  rw [k_q]
  exact congrArg (List.map canR) (by decide +kernel)
theorem k_pow : (kxe.map fun x => canR (qOf x ^ (2 : Int).toNat)) = (([2, 8, 0] : List Int).map fun z => fr z 2).map canR := by
  have : (kxe.map fun x => canR (qOf x ^ (2 : Int).toNat)) = ((kxe.map qOf).map fun q => q ^ 2).map canR := by rw [List.map_map, List.map_map]; rfl
  rw [this]
  unfold kxe
  rw [k_q]
  exact congrArg (List.map canR) (by decide +kernel)
theorem k_noR : bothE noR [3] kxe [3] kye = 0 := bothE_0 kx_may ky_may rfl fun _ _ => rfl
theorem k_divR : bothE divR [3] kxe [3] kye = 0 := by
  rw [← bothE_div kx_may ky_may, if_pos rfl, if_pos]
  unfold kye
  rw [k_q, ky_eq]
  decide +kernel
theorem k_divR' : bothE divR [3] kye [3] kxe = 17 := by
  rw [← bothE_div ky_may kx_may, if_pos rfl, if_neg]
  unfold kxe
  rw [k_q, kx_eq]
  decide +kernel
theorem k_powE : powE [3] kxe 2 = 0 := by unfold powE; rw [kx_may]; rfl
theorem k_fitq {l : List Rat} (h : l.length = 3) : FitQ [3] l 6 := ⟨by decide, by omega, by decide, by decide⟩

set_option maxRecDepth 20000 in
set_option maxHeartbeats 32000000 in
theorem known_u (w : World) : Calls Tryz.prog 15 #[] w (Ret w fun _ v => v = .bool true) := by
  refine Calls.mono (show Calls Tryz.prog 15 #[] w (fun e w' => e = .returned (.bool true) ∧ Fr (fun k => k < w.heap.size) w w') from ?_) fun _ _ h => Ret.eq h.1 h.2
  go_enter Tryz.func15, Tryz.ntmps15
  go_wp2_with fail
  have F0 := (Fr.refl (fun k => k < w.heap.size) w).alloc (.cells #[.int .i64 2, .int .i64 (-4), .int .i64 0] 3)
  have p : Calls Tryz.prog 47 #[.slice (some ⟨w.heap.size, 0, none⟩) 3 3] (w.alloc (.cells #[.int .i64 2, .int .i64 (-4), .int .i64 0] 3)) (Ret (w.alloc (.cells #[.int .i64 2, .int .i64 (-4), .int .i64 0] 3)) (Agg (QV [3] (([2, -4, 0] : List Int).map fun z => fr z 2) 6))) := row_u (ints_hold w 3 [2, -4, 0] _ rfl (by decide) (by decide)).now (by decide)
  with_reducible refine p.mono ?_
  rintro e w1 ⟨v, rfl, hf, H⟩
  obtain ⟨A1, n1, c1, B1, m1, k1, rfl, -⟩ := H.now
  go_wp2_with fail
  with_reducible refine (back_u H.now.out (k_fitq rfl)).mono ?_
  rintro e w2 ⟨v, rfl, hf2, H2⟩
  obtain ⟨A2, n2, c2, B2, m2, k2, rfl, -⟩ := H2.now
  go_wp2_with fail
  have F1 := fr_then (fr_then F0 hf) hf2
  have HX : Hold (fun u => TV [3] kxe u (.slice A2 n2 c2) (.slice B2 m2 k2)) w2 := H2.mono fun _ h => h.out
  clear p H H2 hf hf2 F0
  have al := fun R => (Fr.refl R w2).alloc (.cells #[.int .i64 1, .int .i64 4, .int .i64 6] 3)
  have p : Calls Tryz.prog 47 #[.slice (some ⟨w2.heap.size, 0, none⟩) 3 3] (w2.alloc (.cells #[.int .i64 1, .int .i64 4, .int .i64 6] 3)) (Ret (w2.alloc (.cells #[.int .i64 1, .int .i64 4, .int .i64 6] 3)) (Agg (QV [3] (([1, 4, 6] : List Int).map fun z => fr z 2) 6))) := row_u (ints_hold w2 3 [1, 4, 6] _ rfl (by decide) (by decide)).now (by decide)
  with_reducible refine p.mono ?_
  rintro e w3 ⟨v, rfl, hf, H⟩
  obtain ⟨A3, n3, c3, B3, m3, k3, rfl, -⟩ := H.now
  go_wp2_with fail
  with_reducible refine (back_u H.now.out (k_fitq rfl)).mono ?_
  rintro e w4 ⟨v, rfl, hf2, H2⟩
  obtain ⟨A4, n4, c4, B4, m4, k4, rfl, -⟩ := H2.now
  have F := fr_then (fr_then (fr_then F1 (al _)) hf) hf2
  have HY : Hold (fun u => TV [3] kye u (.slice A4 n4 c4) (.slice B4 m4 k4)) w4 := H2.mono fun _ h => h.out
  replace HX := ((HX.keep (al _)).keep hf).keep hf2
  clear p H H2 hf hf2 F1 al
  dsimp only
  repeat' ((fail_if_success (with_reducible refine wpTill.row (fun _ => True) 0 ?_ ?_)); go_step)
  replace F := (F.alloc (.cells #[.slice A2 n2 c2, .slice B2 m2 k2] 26)).alloc (.cells #[.slice A4 n4 c4, .slice B4 m4 k4] 26)
  have al := fun R => ((Fr.refl R w4).alloc (.cells #[.slice A2 n2 c2, .slice B2 m2 k2] 26)).alloc (.cells #[.slice A4 n4 c4, .slice B4 m4 k4] 26)
  replace HX := HX.keep (al _)
  replace HY := HY.keep (al _)
  have xa := (Box2.new w4 26 (.slice A2 n2 c2) (.slice B2 m2 k2)).alloc (.cells #[.slice A4 n4 c4, .slice B4 m4 k4] 26)
  have xb := Box2.new (w4.alloc (.cells #[.slice A2 n2 c2, .slice B2 m2 k2] 26)) 26 (.slice A4 n4 c4) (.slice B4 m4 k4)
  simp only [World.size_alloc] at xb
  clear al
  generalize (w4.alloc (.cells #[.slice A2 n2 c2, .slice B2 m2 k2] 26)).alloc (.cells #[.slice A4 n4 c4, .slice B4 m4 k4] 26) = W0 at F HX HY xa xb ⊢
  refine wpTill.row (fun _ => True) 7 (by kernel_rfl) ?_
  change wpTill _ _ _ _ _ _ 9 _ _ _
  refine wpTill.free (jj := 7) (m := 2) [(0, Fact.eq (.agg #[.slice A2 n2 c2, .slice B2 m2 k2])),
      (1, Fact.eq (.agg #[.slice A4 n4 c4, .slice B4 m4 k4])),
      (2, Fact.held (Tup (0) (TC 0 [3] ((List.range kxe.length).map (zipG addG kxe kye))))),
      (3, Fact.same 2),
      (4, Fact.fst 3),
      (6, Fact.mem (New2 W0.heap.size 26 (.slice none 0 0) (.slice none 0 0)) New2.keep)] [(5, Fact.snd 3)] [0, 0, 3, 7, 15, 15, 0, 95, 255] [] ?_ (by kernel_rfl) (by kernel_rfl) (by kernel_rfl) [(0, some 22), (1, some 23), (2, some 24), (3, some 21), (4, some 25), (6, some 3), (5, some 26)] (by kernel_rfl) ?hA1 ?hQ1 (fun _ _ => trivial) (by kernel_rfl) ?steps1 ?looses1 ?cont1
  case hQ1 => exact fun _ _ _ _ _ h => h
  case hA1 =>
    intro vs
    simp only [fillD, List.foldl_cons, List.foldl_nil, Act.put, List.setIfInBounds_toArray, List.set_cons_zero, List.set_cons_succ]
    exact rfl
  case steps1 =>
    refine ⟨?_, ?_, ?_, ?_, ?_, ?_, trivial⟩
    · rintro vs u ⟨hV0, hV1, hV2, hV3, hV4, hV6, hV5, -⟩ G
      have o0 := (xa.keep G).c0
      have o1 := (xa.keep G).c1
      exact stepAt.pure (v := .agg #[.slice A2 n2 c2, .slice B2 m2 k2]) rfl rfl (by go_simp) rfl
    · rintro vs u ⟨hV0, hV1, hV2, hV3, hV4, hV6, hV5, -⟩ G
      have o0 := (xb.keep G).c0
      have o1 := (xb.keep G).c1
      exact stepAt.pure (v := .agg #[.slice A4 n4 c4, .slice B4 m4 k4]) rfl rfl (by go_simp) rfl
    · rintro vs u ⟨hV0, hV1, hV2, hV3, hV4, hV6, hV5, -⟩ G
      refine stepAt.call (f := 25) (args := #[vs 0, vs 1]) rfl rfl (by go_simp) ?_
      have eV0 : vs 0 = .agg #[.slice A2 n2 c2, .slice B2 m2 k2] := hV0 rfl
      have eV1 : vs 1 = .agg #[.slice A4 n4 c4, .slice B4 m4 k4] := hV1 rfl
      rw [eV0, eV1]
      exact add_u (HX.at G) (HY.at G) (Lib.hid kx_fit) (Lib.hid ky_fit) (Lib.hid k_noR)
    · rintro vs u ⟨hV0, hV1, hV2, hV3, hV4, hV6, hV5, -⟩ G
      exact stepAt.pure (v := vs 2) rfl rfl (by go_simp) rfl
    · rintro vs u ⟨hV0, hV1, hV2, hV3, hV4, hV6, hV5, -⟩ G
      have HV2 : Hold (fun u' => (Tup (0) (TC 0 [3] ((List.range kxe.length).map (zipG addG kxe kye)))) u' (vs 2)) u := hV2 rfl
      obtain ⟨A1_2, n1_2, c1_2, B1_2, m1_2, k1_2, eV2, -⟩ := HV2.now
      rw [eV2] at HV2
      have eV3 : vs 3 = .tuple #[.agg #[.slice A1_2 n1_2 c1_2, .slice B1_2 m1_2 k1_2], .int .i64 0] := (show vs 3 = vs 2 from hV3 rfl).trans eV2
      exact stepAt.pure (v := .agg #[.slice A1_2 n1_2 c1_2, .slice B1_2 m1_2 k1_2]) rfl rfl (by simp only [eV3]; go_simp) ⟨_, _, eV3, rfl⟩
    · rintro vs u ⟨hV0, hV1, hV2, hV3, hV4, hV6, hV5, -⟩ G
      exact stepAt.value (v := .pointer (some ⟨u.heap.size, 0, none⟩)) (u := u.alloc (.cells #[.slice none 0 0, .slice none 0 0] 26)) rfl rfl (by go_simp) ((Fr.refl _ _).alloc _) ⟨_, rfl, G.size, Box2.new _ _ _ _⟩
  case looses1 =>
    refine ⟨?_, trivial⟩
    · rintro vs u ⟨hV0, hV1, hV2, hV3, hV4, hV6, hV5, -⟩ G
      have HV2 : Hold (fun u' => (Tup (0) (TC 0 [3] ((List.range kxe.length).map (zipG addG kxe kye)))) u' (vs 2)) u := hV2 rfl
      obtain ⟨A1_2, n1_2, c1_2, B1_2, m1_2, k1_2, eV2, -⟩ := HV2.now
      rw [eV2] at HV2
      have eV3 : vs 3 = .tuple #[.agg #[.slice A1_2 n1_2 c1_2, .slice B1_2 m1_2 k1_2], .int .i64 0] := (show vs 3 = vs 2 from hV3 rfl).trans eV2
      exact pureAt.of (v := .int .i64 0) rfl rfl (fun _ => by simp only [eV3]; go_simp) ⟨_, _, eV3, rfl⟩
  rintro vs u ⟨hV0, hV1, hV2, hV3, hV4, hV6, hV5, -⟩ G
  have eV0 : vs 0 = .agg #[.slice A2 n2 c2, .slice B2 m2 k2] := hV0
  have eV1 : vs 1 = .agg #[.slice A4 n4 c4, .slice B4 m4 k4] := hV1
  replace hV2 : Hold (fun u' => (Tup (0) (TC 0 [3] ((List.range kxe.length).map (zipG addG kxe kye)))) u' (vs 2)) u := hV2
  obtain ⟨A1_2, n1_2, c1_2, B1_2, m1_2, k1_2, eV2, -⟩ := hV2.now
  rw [eV2] at hV2
  have eV3 : vs 3 = _ := (show vs 3 = vs 2 from hV3).trans eV2
  obtain ⟨x4, z4, a4, eV4⟩ := hV4
  have a4 := eV3.symm.trans a4
  cases a4
  replace eV4 : vs 4 = _ := eV4
  obtain ⟨b1_6, eV6, l1_6, y1_6⟩ := hV6
  replace eV6 : vs 6 = _ := eV6
  obtain ⟨x5, z5, a5, eV5⟩ := hV5
  have a5 := eV3.symm.trans a5
  cases a5
  replace eV5 : vs 5 = _ := eV5
  simp only [eV0, eV1, eV2, eV3, eV4, eV6, eV5]
  clear eV0 eV1 eV2 eV3 eV4 eV6 eV5 hV0 hV1 hV3
  have g0 := y1_6.free 0
  have g1 := y1_6.free 1
  have g2 := y1_6.c0
  have g3 := y1_6.c1
  refine wpTill.next 7 rfl (by kernel_rfl) (by rfl) (fun K hK => ?_)
  go_simp
  refine hK _ _ (no_wait (by kernel_rfl)) ?_
  clear hK K
  refine wpTill.next 8 rfl (by kernel_rfl) (by rfl) (fun K hK => ?_)
  go_simp
  refine hK _ _ (no_wait (by kernel_rfl)) ?_
  clear hK K
  refine wpTill.done (by kernel_rfl) ?_
  have F9 := fr_put2 u b1_6 (.slice A1_2 n1_2 c1_2) (.slice B1_2 m1_2 k1_2)
  have G9 := G.comp F9 (R := fun k => k < W0.heap.size) fun k _ hk => ⟨hk, by omega⟩
  have z1 := y1_6.set2 (.slice A1_2 n1_2 c1_2) (.slice B1_2 m1_2 k1_2)
  have T1 := (hV2.now.out.fill (.slice A1_2 n1_2 c1_2) (.slice B1_2 m1_2 k1_2) y1_6).hold
  replace xa := xa.keep G9
  replace xb := xb.keep G9
  replace HX := HX.keep G9
  replace HY := HY.keep G9
  replace F := fr_then F G9
  generalize (u.setCell ⟨b1_6, 0, none⟩ (.slice A1_2 n1_2 c1_2)).setCell ⟨b1_6, 1, none⟩ (.slice B1_2 m1_2 k1_2) = U1 at z1 T1 xa xb HX HY F ⊢
  clear g0 g1 g2 g3 F9 G9 G y1_6 l1_6 hV2
  repeat' ((fail_if_success (with_reducible refine wpTill.row (fun _ => True) 0 ?_ ?_)); go_step)
  refine wpTill.row (fun _ => True) 7 (by kernel_rfl) ?_
  change wpTill _ _ _ _ _ _ 9 _ _ _
  refine wpTill.free (jj := 7) (m := 2) [(0, Fact.eq (.agg #[.slice A2 n2 c2, .slice B2 m2 k2])),
      (1, Fact.eq (.agg #[.slice A4 n4 c4, .slice B4 m4 k4])),
      (2, Fact.held (Tup (0) (TC 0 [3] ((List.range kxe.length).map (zipG divG kxe kye))))),
      (3, Fact.same 2),
      (4, Fact.fst 3),
      (6, Fact.mem (New2 U1.heap.size 26 (.slice none 0 0) (.slice none 0 0)) New2.keep)] [(5, Fact.snd 3)] [0, 0, 3, 7, 15, 15, 0, 95, 255] [] ?_ (by kernel_rfl) (by kernel_rfl) (by kernel_rfl) [(0, some 28), (1, some 29), (2, some 30), (3, some 27), (4, some 31), (6, some 5), (5, some 32)] (by kernel_rfl) ?hA2 ?hQ2 (fun _ _ => trivial) (by kernel_rfl) ?steps2 ?looses2 ?cont2
  case hQ2 => exact fun _ _ _ _ _ h => h
  case hA2 =>
    intro vs
    simp only [fillD, List.foldl_cons, List.foldl_nil, Act.put, List.setIfInBounds_toArray, List.set_cons_zero, List.set_cons_succ]
    exact rfl
  case steps2 =>
    refine ⟨?_, ?_, ?_, ?_, ?_, ?_, trivial⟩
    · rintro vs u ⟨hV0, hV1, hV2, hV3, hV4, hV6, hV5, -⟩ G
      have o0 := (xa.keep G).c0
      have o1 := (xa.keep G).c1
      exact stepAt.pure (v := .agg #[.slice A2 n2 c2, .slice B2 m2 k2]) rfl rfl (by go_simp) rfl
    · rintro vs u ⟨hV0, hV1, hV2, hV3, hV4, hV6, hV5, -⟩ G
      have o0 := (xb.keep G).c0
      have o1 := (xb.keep G).c1
      exact stepAt.pure (v := .agg #[.slice A4 n4 c4, .slice B4 m4 k4]) rfl rfl (by go_simp) rfl
    · rintro vs u ⟨hV0, hV1, hV2, hV3, hV4, hV6, hV5, -⟩ G
      refine stepAt.call (f := 31) (args := #[vs 0, vs 1]) rfl rfl (by go_simp) ?_
      have eV0 : vs 0 = .agg #[.slice A2 n2 c2, .slice B2 m2 k2] := hV0 rfl
      have eV1 : vs 1 = .agg #[.slice A4 n4 c4, .slice B4 m4 k4] := hV1 rfl
      rw [eV0, eV1]
      exact div_u (HX.at G) (HY.at G) (Lib.hid kx_fit) (Lib.hid ky_fit) (Lib.hid k_divR)
    · rintro vs u ⟨hV0, hV1, hV2, hV3, hV4, hV6, hV5, -⟩ G
      exact stepAt.pure (v := vs 2) rfl rfl (by go_simp) rfl
    · rintro vs u ⟨hV0, hV1, hV2, hV3, hV4, hV6, hV5, -⟩ G
      have HV2 : Hold (fun u' => (Tup (0) (TC 0 [3] ((List.range kxe.length).map (zipG divG kxe kye)))) u' (vs 2)) u := hV2 rfl
      obtain ⟨A2_2, n2_2, c2_2, B2_2, m2_2, k2_2, eV2, -⟩ := HV2.now
      rw [eV2] at HV2
      have eV3 : vs 3 = .tuple #[.agg #[.slice A2_2 n2_2 c2_2, .slice B2_2 m2_2 k2_2], .int .i64 0] := (show vs 3 = vs 2 from hV3 rfl).trans eV2
      exact stepAt.pure (v := .agg #[.slice A2_2 n2_2 c2_2, .slice B2_2 m2_2 k2_2]) rfl rfl (by simp only [eV3]; go_simp) ⟨_, _, eV3, rfl⟩
    · rintro vs u ⟨hV0, hV1, hV2, hV3, hV4, hV6, hV5, -⟩ G
      exact stepAt.value (v := .pointer (some ⟨u.heap.size, 0, none⟩)) (u := u.alloc (.cells #[.slice none 0 0, .slice none 0 0] 26)) rfl rfl (by go_simp) ((Fr.refl _ _).alloc _) ⟨_, rfl, G.size, Box2.new _ _ _ _⟩
  case looses2 =>
    refine ⟨?_, trivial⟩
    · rintro vs u ⟨hV0, hV1, hV2, hV3, hV4, hV6, hV5, -⟩ G
      have HV2 : Hold (fun u' => (Tup (0) (TC 0 [3] ((List.range kxe.length).map (zipG divG kxe kye)))) u' (vs 2)) u := hV2 rfl
      obtain ⟨A2_2, n2_2, c2_2, B2_2, m2_2, k2_2, eV2, -⟩ := HV2.now
      rw [eV2] at HV2
      have eV3 : vs 3 = .tuple #[.agg #[.slice A2_2 n2_2 c2_2, .slice B2_2 m2_2 k2_2], .int .i64 0] := (show vs 3 = vs 2 from hV3 rfl).trans eV2
      exact pureAt.of (v := .int .i64 0) rfl rfl (fun _ => by simp only [eV3]; go_simp) ⟨_, _, eV3, rfl⟩
  rintro vs u ⟨hV0, hV1, hV2, hV3, hV4, hV6, hV5, -⟩ G
  have eV0 : vs 0 = .agg #[.slice A2 n2 c2, .slice B2 m2 k2] := hV0
  have eV1 : vs 1 = .agg #[.slice A4 n4 c4, .slice B4 m4 k4] := hV1
  replace hV2 : Hold (fun u' => (Tup (0) (TC 0 [3] ((List.range kxe.length).map (zipG divG kxe kye)))) u' (vs 2)) u := hV2
  obtain ⟨A2_2, n2_2, c2_2, B2_2, m2_2, k2_2, eV2, -⟩ := hV2.now
  rw [eV2] at hV2
  have eV3 : vs 3 = _ := (show vs 3 = vs 2 from hV3).trans eV2
  obtain ⟨x4, z4, a4, eV4⟩ := hV4
  have a4 := eV3.symm.trans a4
  cases a4
  replace eV4 : vs 4 = _ := eV4
  obtain ⟨b2_6, eV6, l2_6, y2_6⟩ := hV6
  replace eV6 : vs 6 = _ := eV6
  obtain ⟨x5, z5, a5, eV5⟩ := hV5
  have a5 := eV3.symm.trans a5
  cases a5
  replace eV5 : vs 5 = _ := eV5
  simp only [eV0, eV1, eV2, eV3, eV4, eV6, eV5]
  clear eV0 eV1 eV2 eV3 eV4 eV6 eV5 hV0 hV1 hV3
  have g0 := y2_6.free 0
  have g1 := y2_6.free 1
  have g2 := y2_6.c0
  have g3 := y2_6.c1
  refine wpTill.next 7 rfl (by kernel_rfl) (by rfl) (fun K hK => ?_)
  go_simp
  refine hK _ _ (no_wait (by kernel_rfl)) ?_
  clear hK K
  refine wpTill.next 8 rfl (by kernel_rfl) (by rfl) (fun K hK => ?_)
  go_simp
  refine hK _ _ (no_wait (by kernel_rfl)) ?_
  clear hK K
  refine wpTill.done (by kernel_rfl) ?_
  have F9 := fr_put2 u b2_6 (.slice A2_2 n2_2 c2_2) (.slice B2_2 m2_2 k2_2)
  have G9 := G.comp F9 (R := fun k => k < U1.heap.size) fun k _ hk => ⟨hk, by omega⟩
  have z2 := y2_6.set2 (.slice A2_2 n2_2 c2_2) (.slice B2_2 m2_2 k2_2)
  have T2 := (hV2.now.out.fill (.slice A2_2 n2_2 c2_2) (.slice B2_2 m2_2 k2_2) y2_6).hold
  replace xa := xa.keep G9
  replace xb := xb.keep G9
  replace z1 := z1.keep G9
  replace HX := HX.keep G9
  replace HY := HY.keep G9
  replace T1 := T1.keep G9
  replace F := fr_then F G9
  generalize (u.setCell ⟨b2_6, 0, none⟩ (.slice A2_2 n2_2 c2_2)).setCell ⟨b2_6, 1, none⟩ (.slice B2_2 m2_2 k2_2) = U2 at z2 T2 xa xb z1 HX HY T1 F ⊢
  clear g0 g1 g2 g3 F9 G9 G y2_6 l2_6 hV2
  repeat' ((fail_if_success (with_reducible refine wpTill.row (fun _ => True) 0 ?_ ?_)); go_step)
  refine wpTill.row (fun _ => True) 6 (by kernel_rfl) ?_
  change wpTill _ _ _ _ _ _ 8 _ _ _
  refine wpTill.free (jj := 6) (m := 2) [(0, Fact.eq (.agg #[.slice A2 n2 c2, .slice B2 m2 k2])),
      (1, Fact.held (Tup (0) (TC 0 [3] ((kxe.map fun x => canR (if (qOf x).num.sign < 0 then 0 else qOf x)))))),
      (2, Fact.same 1),
      (3, Fact.fst 2),
      (5, Fact.mem (New2 U2.heap.size 26 (.slice none 0 0) (.slice none 0 0)) New2.keep)] [(4, Fact.snd 2)] [0, 1, 3, 7, 7, 0, 47, 127] [] ?_ (by kernel_rfl) (by kernel_rfl) (by kernel_rfl) [(0, some 34), (1, some 35), (2, some 33), (3, some 36), (5, some 7), (4, some 37)] (by kernel_rfl) ?hA3 ?hQ3 (fun _ _ => trivial) (by kernel_rfl) ?steps3 ?looses3 ?cont3
  case hQ3 => exact fun _ _ _ _ _ h => h
  case hA3 =>
    intro vs
    simp only [fillD, List.foldl_cons, List.foldl_nil, Act.put, List.setIfInBounds_toArray, List.set_cons_zero, List.set_cons_succ]
    exact rfl
  case steps3 =>
    refine ⟨?_, ?_, ?_, ?_, ?_, trivial⟩
    · rintro vs u ⟨hV0, hV1, hV2, hV3, hV5, hV4, -⟩ G
      have o0 := (xa.keep G).c0
      have o1 := (xa.keep G).c1
      exact stepAt.pure (v := .agg #[.slice A2 n2 c2, .slice B2 m2 k2]) rfl rfl (by go_simp) rfl
    · rintro vs u ⟨hV0, hV1, hV2, hV3, hV5, hV4, -⟩ G
      refine stepAt.call (f := 20) (args := #[vs 0]) rfl rfl (by go_simp) ?_
      have eV0 : vs 0 = .agg #[.slice A2 n2 c2, .slice B2 m2 k2] := hV0 rfl
      rw [eV0]
      exact relu_u (HX.at G) (Lib.hid kx_fit) (Lib.hid kx_may)
    · rintro vs u ⟨hV0, hV1, hV2, hV3, hV5, hV4, -⟩ G
      exact stepAt.pure (v := vs 1) rfl rfl (by go_simp) rfl
    · rintro vs u ⟨hV0, hV1, hV2, hV3, hV5, hV4, -⟩ G
      have HV1 : Hold (fun u' => (Tup (0) (TC 0 [3] ((kxe.map fun x => canR (if (qOf x).num.sign < 0 then 0 else qOf x))))) u' (vs 1)) u := hV1 rfl
      obtain ⟨A3_1, n3_1, c3_1, B3_1, m3_1, k3_1, eV1, -⟩ := HV1.now
      rw [eV1] at HV1
      have eV2 : vs 2 = .tuple #[.agg #[.slice A3_1 n3_1 c3_1, .slice B3_1 m3_1 k3_1], .int .i64 0] := (show vs 2 = vs 1 from hV2 rfl).trans eV1
      exact stepAt.pure (v := .agg #[.slice A3_1 n3_1 c3_1, .slice B3_1 m3_1 k3_1]) rfl rfl (by simp only [eV2]; go_simp) ⟨_, _, eV2, rfl⟩
    · rintro vs u ⟨hV0, hV1, hV2, hV3, hV5, hV4, -⟩ G
      exact stepAt.value (v := .pointer (some ⟨u.heap.size, 0, none⟩)) (u := u.alloc (.cells #[.slice none 0 0, .slice none 0 0] 26)) rfl rfl (by go_simp) ((Fr.refl _ _).alloc _) ⟨_, rfl, G.size, Box2.new _ _ _ _⟩
  case looses3 =>
    refine ⟨?_, trivial⟩
    · rintro vs u ⟨hV0, hV1, hV2, hV3, hV5, hV4, -⟩ G
      have HV1 : Hold (fun u' => (Tup (0) (TC 0 [3] ((kxe.map fun x => canR (if (qOf x).num.sign < 0 then 0 else qOf x))))) u' (vs 1)) u := hV1 rfl
      obtain ⟨A3_1, n3_1, c3_1, B3_1, m3_1, k3_1, eV1, -⟩ := HV1.now
      rw [eV1] at HV1
      have eV2 : vs 2 = .tuple #[.agg #[.slice A3_1 n3_1 c3_1, .slice B3_1 m3_1 k3_1], .int .i64 0] := (show vs 2 = vs 1 from hV2 rfl).trans eV1
      exact pureAt.of (v := .int .i64 0) rfl rfl (fun _ => by simp only [eV2]; go_simp) ⟨_, _, eV2, rfl⟩
  rintro vs u ⟨hV0, hV1, hV2, hV3, hV5, hV4, -⟩ G
  have eV0 : vs 0 = .agg #[.slice A2 n2 c2, .slice B2 m2 k2] := hV0
  replace hV1 : Hold (fun u' => (Tup (0) (TC 0 [3] ((kxe.map fun x => canR (if (qOf x).num.sign < 0 then 0 else qOf x))))) u' (vs 1)) u := hV1
  obtain ⟨A3_1, n3_1, c3_1, B3_1, m3_1, k3_1, eV1, -⟩ := hV1.now
  rw [eV1] at hV1
  have eV2 : vs 2 = _ := (show vs 2 = vs 1 from hV2).trans eV1
  obtain ⟨x3, z3, a3, eV3⟩ := hV3
  have a3 := eV2.symm.trans a3
  cases a3
  replace eV3 : vs 3 = _ := eV3
  obtain ⟨b3_5, eV5, l3_5, y3_5⟩ := hV5
  replace eV5 : vs 5 = _ := eV5
  obtain ⟨x4, z4, a4, eV4⟩ := hV4
  have a4 := eV2.symm.trans a4
  cases a4
  replace eV4 : vs 4 = _ := eV4
  simp only [eV0, eV1, eV2, eV3, eV5, eV4]
  clear eV0 eV1 eV2 eV3 eV5 eV4 hV0 hV2
  have g0 := y3_5.free 0
  have g1 := y3_5.free 1
  have g2 := y3_5.c0
  have g3 := y3_5.c1
  refine wpTill.next 6 rfl (by kernel_rfl) (by rfl) (fun K hK => ?_)
  go_simp
  refine hK _ _ (no_wait (by kernel_rfl)) ?_
  clear hK K
  refine wpTill.next 7 rfl (by kernel_rfl) (by rfl) (fun K hK => ?_)
  go_simp
  refine hK _ _ (no_wait (by kernel_rfl)) ?_
  clear hK K
  refine wpTill.done (by kernel_rfl) ?_
  have F9 := fr_put2 u b3_5 (.slice A3_1 n3_1 c3_1) (.slice B3_1 m3_1 k3_1)
  have G9 := G.comp F9 (R := fun k => k < U2.heap.size) fun k _ hk => ⟨hk, by omega⟩
  have z3 := y3_5.set2 (.slice A3_1 n3_1 c3_1) (.slice B3_1 m3_1 k3_1)
  have T3 := (hV1.now.out.fill (.slice A3_1 n3_1 c3_1) (.slice B3_1 m3_1 k3_1) y3_5).hold
  replace xa := xa.keep G9
  replace xb := xb.keep G9
  replace z1 := z1.keep G9
  replace z2 := z2.keep G9
  replace HX := HX.keep G9
  replace HY := HY.keep G9
  replace T1 := T1.keep G9
  replace T2 := T2.keep G9
  replace F := fr_then F G9
  generalize (u.setCell ⟨b3_5, 0, none⟩ (.slice A3_1 n3_1 c3_1)).setCell ⟨b3_5, 1, none⟩ (.slice B3_1 m3_1 k3_1) = U3 at z3 T3 xa xb z1 z2 HX HY T1 T2 F ⊢
  clear g0 g1 g2 g3 F9 G9 G y3_5 l3_5 hV1
  repeat' ((fail_if_success (with_reducible refine wpTill.row (fun _ => True) 0 ?_ ?_)); go_step)
  refine wpTill.row (fun _ => True) 6 (by kernel_rfl) ?_
  change wpTill _ _ _ _ _ _ 8 _ _ _
  refine wpTill.free (jj := 6) (m := 2) [(0, Fact.eq (.agg #[.slice A2 n2 c2, .slice B2 m2 k2])),
      (1, Fact.held (Tup (0) (TC 0 [3] ((kxe.map fun x => canR ((max (qOf x).num.sign 0 : Int) : Rat)))))),
      (2, Fact.same 1),
      (3, Fact.fst 2),
      (5, Fact.mem (New2 U3.heap.size 26 (.slice none 0 0) (.slice none 0 0)) New2.keep)] [(4, Fact.snd 2)] [0, 1, 3, 7, 7, 0, 47, 127] [] ?_ (by kernel_rfl) (by kernel_rfl) (by kernel_rfl) [(0, some 39), (1, some 40), (2, some 38), (3, some 41), (5, some 9), (4, some 42)] (by kernel_rfl) ?hA4 ?hQ4 (fun _ _ => trivial) (by kernel_rfl) ?steps4 ?looses4 ?cont4
  case hQ4 => exact fun _ _ _ _ _ h => h
  case hA4 =>
    intro vs
    simp only [fillD, List.foldl_cons, List.foldl_nil, Act.put, List.setIfInBounds_toArray, List.set_cons_zero, List.set_cons_succ]
    exact rfl
  case steps4 =>
    refine ⟨?_, ?_, ?_, ?_, ?_, trivial⟩
    · rintro vs u ⟨hV0, hV1, hV2, hV3, hV5, hV4, -⟩ G
      have o0 := (xa.keep G).c0
      have o1 := (xa.keep G).c1
      exact stepAt.pure (v := .agg #[.slice A2 n2 c2, .slice B2 m2 k2]) rfl rfl (by go_simp) rfl
    · rintro vs u ⟨hV0, hV1, hV2, hV3, hV5, hV4, -⟩ G
      refine stepAt.call (f := 21) (args := #[vs 0]) rfl rfl (by go_simp) ?_
      have eV0 : vs 0 = .agg #[.slice A2 n2 c2, .slice B2 m2 k2] := hV0 rfl
      rw [eV0]
      exact step_u (HX.at G) (Lib.hid kx_fit) (Lib.hid kx_may)
    · rintro vs u ⟨hV0, hV1, hV2, hV3, hV5, hV4, -⟩ G
      exact stepAt.pure (v := vs 1) rfl rfl (by go_simp) rfl
    · rintro vs u ⟨hV0, hV1, hV2, hV3, hV5, hV4, -⟩ G
      have HV1 : Hold (fun u' => (Tup (0) (TC 0 [3] ((kxe.map fun x => canR ((max (qOf x).num.sign 0 : Int) : Rat))))) u' (vs 1)) u := hV1 rfl
      obtain ⟨A4_1, n4_1, c4_1, B4_1, m4_1, k4_1, eV1, -⟩ := HV1.now
      rw [eV1] at HV1
      have eV2 : vs 2 = .tuple #[.agg #[.slice A4_1 n4_1 c4_1, .slice B4_1 m4_1 k4_1], .int .i64 0] := (show vs 2 = vs 1 from hV2 rfl).trans eV1
      exact stepAt.pure (v := .agg #[.slice A4_1 n4_1 c4_1, .slice B4_1 m4_1 k4_1]) rfl rfl (by simp only [eV2]; go_simp) ⟨_, _, eV2, rfl⟩
    · rintro vs u ⟨hV0, hV1, hV2, hV3, hV5, hV4, -⟩ G
      exact stepAt.value (v := .pointer (some ⟨u.heap.size, 0, none⟩)) (u := u.alloc (.cells #[.slice none 0 0, .slice none 0 0] 26)) rfl rfl (by go_simp) ((Fr.refl _ _).alloc _) ⟨_, rfl, G.size, Box2.new _ _ _ _⟩
  case looses4 =>
    refine ⟨?_, trivial⟩
    · rintro vs u ⟨hV0, hV1, hV2, hV3, hV5, hV4, -⟩ G
      have HV1 : Hold (fun u' => (Tup (0) (TC 0 [3] ((kxe.map fun x => canR ((max (qOf x).num.sign 0 : Int) : Rat))))) u' (vs 1)) u := hV1 rfl
      obtain ⟨A4_1, n4_1, c4_1, B4_1, m4_1, k4_1, eV1, -⟩ := HV1.now
      rw [eV1] at HV1
      have eV2 : vs 2 = .tuple #[.agg #[.slice A4_1 n4_1 c4_1, .slice B4_1 m4_1 k4_1], .int .i64 0] := (show vs 2 = vs 1 from hV2 rfl).trans eV1
      exact pureAt.of (v := .int .i64 0) rfl rfl (fun _ => by simp only [eV2]; go_simp) ⟨_, _, eV2, rfl⟩
  rintro vs u ⟨hV0, hV1, hV2, hV3, hV5, hV4, -⟩ G
  have eV0 : vs 0 = .agg #[.slice A2 n2 c2, .slice B2 m2 k2] := hV0
  replace hV1 : Hold (fun u' => (Tup (0) (TC 0 [3] ((kxe.map fun x => canR ((max (qOf x).num.sign 0 : Int) : Rat))))) u' (vs 1)) u := hV1
  obtain ⟨A4_1, n4_1, c4_1, B4_1, m4_1, k4_1, eV1, -⟩ := hV1.now
  rw [eV1] at hV1
  have eV2 : vs 2 = _ := (show vs 2 = vs 1 from hV2).trans eV1
  obtain ⟨x3, z3, a3, eV3⟩ := hV3
  have a3 := eV2.symm.trans a3
  cases a3
  replace eV3 : vs 3 = _ := eV3
  obtain ⟨b4_5, eV5, l4_5, y4_5⟩ := hV5
  replace eV5 : vs 5 = _ := eV5
  obtain ⟨x4, z4, a4, eV4⟩ := hV4
  have a4 := eV2.symm.trans a4
  cases a4
  replace eV4 : vs 4 = _ := eV4
  simp only [eV0, eV1, eV2, eV3, eV5, eV4]
  clear eV0 eV1 eV2 eV3 eV5 eV4 hV0 hV2
  have g0 := y4_5.free 0
  have g1 := y4_5.free 1
  have g2 := y4_5.c0
  have g3 := y4_5.c1
  refine wpTill.next 6 rfl (by kernel_rfl) (by rfl) (fun K hK => ?_)
  go_simp
  refine hK _ _ (no_wait (by kernel_rfl)) ?_
  clear hK K
  refine wpTill.next 7 rfl (by kernel_rfl) (by rfl) (fun K hK => ?_)
  go_simp
  refine hK _ _ (no_wait (by kernel_rfl)) ?_
  clear hK K
  refine wpTill.done (by kernel_rfl) ?_
  have F9 := fr_put2 u b4_5 (.slice A4_1 n4_1 c4_1) (.slice B4_1 m4_1 k4_1)
  have G9 := G.comp F9 (R := fun k => k < U3.heap.size) fun k _ hk => ⟨hk, by omega⟩
  have z4 := y4_5.set2 (.slice A4_1 n4_1 c4_1) (.slice B4_1 m4_1 k4_1)
  have T4 := (hV1.now.out.fill (.slice A4_1 n4_1 c4_1) (.slice B4_1 m4_1 k4_1) y4_5).hold
  replace xa := xa.keep G9
  replace xb := xb.keep G9
  replace z1 := z1.keep G9
  replace z2 := z2.keep G9
  replace z3 := z3.keep G9
  replace HX := HX.keep G9
  replace HY := HY.keep G9
  replace T1 := T1.keep G9
  replace T2 := T2.keep G9
  replace T3 := T3.keep G9
  replace F := fr_then F G9
  generalize (u.setCell ⟨b4_5, 0, none⟩ (.slice A4_1 n4_1 c4_1)).setCell ⟨b4_5, 1, none⟩ (.slice B4_1 m4_1 k4_1) = U4 at z4 T4 xa xb z1 z2 z3 HX HY T1 T2 T3 F ⊢
  clear g0 g1 g2 g3 F9 G9 G y4_5 l4_5 hV1
  repeat' ((fail_if_success (with_reducible refine wpTill.row (fun _ => True) 0 ?_ ?_)); go_step)
  refine wpTill.row (fun _ => True) 6 (by kernel_rfl) ?_
  change wpTill _ _ _ _ _ _ 8 _ _ _
  refine wpTill.free (jj := 6) (m := 2) [(0, Fact.eq (.agg #[.slice A2 n2 c2, .slice B2 m2 k2])),
      (1, Fact.held (Tup (0) (TC 0 [3] ((kxe.map fun x => canR (qOf x ^ (2 : Int).toNat)))))),
      (2, Fact.same 1),
      (3, Fact.fst 2),
      (5, Fact.mem (New2 U4.heap.size 26 (.slice none 0 0) (.slice none 0 0)) New2.keep)] [(4, Fact.snd 2)] [0, 1, 3, 7, 7, 0, 47, 127] [] ?_ (by kernel_rfl) (by kernel_rfl) (by kernel_rfl) [(0, some 44), (1, some 45), (2, some 43), (3, some 46), (5, some 11), (4, some 47)] (by kernel_rfl) ?hA5 ?hQ5 (fun _ _ => trivial) (by kernel_rfl) ?steps5 ?looses5 ?cont5
  case hQ5 => exact fun _ _ _ _ _ h => h
  case hA5 =>
    intro vs
    simp only [fillD, List.foldl_cons, List.foldl_nil, Act.put, List.setIfInBounds_toArray, List.set_cons_zero, List.set_cons_succ]
    exact rfl
  case steps5 =>
    refine ⟨?_, ?_, ?_, ?_, ?_, trivial⟩
    · rintro vs u ⟨hV0, hV1, hV2, hV3, hV5, hV4, -⟩ G
      have o0 := (xa.keep G).c0
      have o1 := (xa.keep G).c1
      exact stepAt.pure (v := .agg #[.slice A2 n2 c2, .slice B2 m2 k2]) rfl rfl (by go_simp) rfl
    · rintro vs u ⟨hV0, hV1, hV2, hV3, hV5, hV4, -⟩ G
      refine stepAt.call (f := 16) (args := #[vs 0, .int .i64 2]) rfl rfl (by go_simp) ?_
      have eV0 : vs 0 = .agg #[.slice A2 n2 c2, .slice B2 m2 k2] := hV0 rfl
      rw [eV0]
      exact pow_u (HX.at G) (Lib.hid kx_fit) (Lib.hid k_powE) (Lib.hid (by decide))
    · rintro vs u ⟨hV0, hV1, hV2, hV3, hV5, hV4, -⟩ G
      exact stepAt.pure (v := vs 1) rfl rfl (by go_simp) rfl
    · rintro vs u ⟨hV0, hV1, hV2, hV3, hV5, hV4, -⟩ G
      have HV1 : Hold (fun u' => (Tup (0) (TC 0 [3] ((kxe.map fun x => canR (qOf x ^ (2 : Int).toNat))))) u' (vs 1)) u := hV1 rfl
      obtain ⟨A5_1, n5_1, c5_1, B5_1, m5_1, k5_1, eV1, -⟩ := HV1.now
      rw [eV1] at HV1
      have eV2 : vs 2 = .tuple #[.agg #[.slice A5_1 n5_1 c5_1, .slice B5_1 m5_1 k5_1], .int .i64 0] := (show vs 2 = vs 1 from hV2 rfl).trans eV1
      exact stepAt.pure (v := .agg #[.slice A5_1 n5_1 c5_1, .slice B5_1 m5_1 k5_1]) rfl rfl (by simp only [eV2]; go_simp) ⟨_, _, eV2, rfl⟩
    · rintro vs u ⟨hV0, hV1, hV2, hV3, hV5, hV4, -⟩ G
      exact stepAt.value (v := .pointer (some ⟨u.heap.size, 0, none⟩)) (u := u.alloc (.cells #[.slice none 0 0, .slice none 0 0] 26)) rfl rfl (by go_simp) ((Fr.refl _ _).alloc _) ⟨_, rfl, G.size, Box2.new _ _ _ _⟩
  case looses5 =>
    refine ⟨?_, trivial⟩
    · rintro vs u ⟨hV0, hV1, hV2, hV3, hV5, hV4, -⟩ G
      have HV1 : Hold (fun u' => (Tup (0) (TC 0 [3] ((kxe.map fun x => canR (qOf x ^ (2 : Int).toNat))))) u' (vs 1)) u := hV1 rfl
      obtain ⟨A5_1, n5_1, c5_1, B5_1, m5_1, k5_1, eV1, -⟩ := HV1.now
      rw [eV1] at HV1
      have eV2 : vs 2 = .tuple #[.agg #[.slice A5_1 n5_1 c5_1, .slice B5_1 m5_1 k5_1], .int .i64 0] := (show vs 2 = vs 1 from hV2 rfl).trans eV1
      exact pureAt.of (v := .int .i64 0) rfl rfl (fun _ => by simp only [eV2]; go_simp) ⟨_, _, eV2, rfl⟩
  rintro vs u ⟨hV0, hV1, hV2, hV3, hV5, hV4, -⟩ G
  have eV0 : vs 0 = .agg #[.slice A2 n2 c2, .slice B2 m2 k2] := hV0
  replace hV1 : Hold (fun u' => (Tup (0) (TC 0 [3] ((kxe.map fun x => canR (qOf x ^ (2 : Int).toNat))))) u' (vs 1)) u := hV1
  obtain ⟨A5_1, n5_1, c5_1, B5_1, m5_1, k5_1, eV1, -⟩ := hV1.now
  rw [eV1] at hV1
  have eV2 : vs 2 = _ := (show vs 2 = vs 1 from hV2).trans eV1
  obtain ⟨x3, z3, a3, eV3⟩ := hV3
  have a3 := eV2.symm.trans a3
  cases a3
  replace eV3 : vs 3 = _ := eV3
  obtain ⟨b5_5, eV5, l5_5, y5_5⟩ := hV5
  replace eV5 : vs 5 = _ := eV5
  obtain ⟨x4, z4, a4, eV4⟩ := hV4
  have a4 := eV2.symm.trans a4
  cases a4
  replace eV4 : vs 4 = _ := eV4
  simp only [eV0, eV1, eV2, eV3, eV5, eV4]
  clear eV0 eV1 eV2 eV3 eV5 eV4 hV0 hV2
  have g0 := y5_5.free 0
  have g1 := y5_5.free 1
  have g2 := y5_5.c0
  have g3 := y5_5.c1
  refine wpTill.next 6 rfl (by kernel_rfl) (by rfl) (fun K hK => ?_)
  go_simp
  refine hK _ _ (no_wait (by kernel_rfl)) ?_
  clear hK K
  refine wpTill.next 7 rfl (by kernel_rfl) (by rfl) (fun K hK => ?_)
  go_simp
  refine hK _ _ (no_wait (by kernel_rfl)) ?_
  clear hK K
  refine wpTill.done (by kernel_rfl) ?_
  have F9 := fr_put2 u b5_5 (.slice A5_1 n5_1 c5_1) (.slice B5_1 m5_1 k5_1)
  have G9 := G.comp F9 (R := fun k => k < U4.heap.size) fun k _ hk => ⟨hk, by omega⟩
  have z5 := y5_5.set2 (.slice A5_1 n5_1 c5_1) (.slice B5_1 m5_1 k5_1)
  have T5 := (hV1.now.out.fill (.slice A5_1 n5_1 c5_1) (.slice B5_1 m5_1 k5_1) y5_5).hold
  replace xa := xa.keep G9
  replace xb := xb.keep G9
  replace z1 := z1.keep G9
  replace z2 := z2.keep G9
  replace z3 := z3.keep G9
  replace z4 := z4.keep G9
  replace HX := HX.keep G9
  replace HY := HY.keep G9
  replace T1 := T1.keep G9
  replace T2 := T2.keep G9
  replace T3 := T3.keep G9
  replace T4 := T4.keep G9
  replace F := fr_then F G9
  generalize (u.setCell ⟨b5_5, 0, none⟩ (.slice A5_1 n5_1 c5_1)).setCell ⟨b5_5, 1, none⟩ (.slice B5_1 m5_1 k5_1) = U5 at z5 T5 xa xb z1 z2 z3 z4 HX HY T1 T2 T3 T4 F ⊢
  clear g0 g1 g2 g3 F9 G9 G y5_5 l5_5 hV1
  repeat' ((fail_if_success (with_reducible refine wpTill.row (fun _ => True) 0 ?_ ?_)); go_step)
  refine wpTill.row (fun _ => True) 7 (by kernel_rfl) ?_
  change wpTill _ _ _ _ _ _ 9 _ _ _
  refine wpTill.free (jj := 7) (m := 2) [(0, Fact.eq (.agg #[.slice A4 n4 c4, .slice B4 m4 k4])),
      (1, Fact.eq (.agg #[.slice A2 n2 c2, .slice B2 m2 k2])),
      (2, Fact.held (Tup (17) (TC 17 [3] ((List.range kye.length).map (zipG divG kye kxe))))),
      (3, Fact.same 2),
      (4, Fact.fst 3),
      (6, Fact.mem (New2 U5.heap.size 26 (.slice none 0 0) (.slice none 0 0)) New2.keep)] [(5, Fact.snd 3)] [0, 0, 3, 7, 15, 15, 0, 95, 255] [] ?_ (by kernel_rfl) (by kernel_rfl) (by kernel_rfl) [(0, some 49), (1, some 50), (2, some 51), (3, some 48), (4, some 52), (6, some 13), (5, some 53)] (by kernel_rfl) ?hA6 ?hQ6 (fun _ _ => trivial) (by kernel_rfl) ?steps6 ?looses6 ?cont6
  case hQ6 => exact fun _ _ _ _ _ h => h
  case hA6 =>
    intro vs
    simp only [fillD, List.foldl_cons, List.foldl_nil, Act.put, List.setIfInBounds_toArray, List.set_cons_zero, List.set_cons_succ]
    exact rfl
  case steps6 =>
    refine ⟨?_, ?_, ?_, ?_, ?_, ?_, trivial⟩
    · rintro vs u ⟨hV0, hV1, hV2, hV3, hV4, hV6, hV5, -⟩ G
      have o0 := (xb.keep G).c0
      have o1 := (xb.keep G).c1
      exact stepAt.pure (v := .agg #[.slice A4 n4 c4, .slice B4 m4 k4]) rfl rfl (by go_simp) rfl
    · rintro vs u ⟨hV0, hV1, hV2, hV3, hV4, hV6, hV5, -⟩ G
      have o0 := (xa.keep G).c0
      have o1 := (xa.keep G).c1
      exact stepAt.pure (v := .agg #[.slice A2 n2 c2, .slice B2 m2 k2]) rfl rfl (by go_simp) rfl
    · rintro vs u ⟨hV0, hV1, hV2, hV3, hV4, hV6, hV5, -⟩ G
      refine stepAt.call (f := 31) (args := #[vs 0, vs 1]) rfl rfl (by go_simp) ?_
      have eV0 : vs 0 = .agg #[.slice A4 n4 c4, .slice B4 m4 k4] := hV0 rfl
      have eV1 : vs 1 = .agg #[.slice A2 n2 c2, .slice B2 m2 k2] := hV1 rfl
      rw [eV0, eV1]
      exact div_u (HY.at G) (HX.at G) (Lib.hid ky_fit) (Lib.hid kx_fit) (Lib.hid k_divR')
    · rintro vs u ⟨hV0, hV1, hV2, hV3, hV4, hV6, hV5, -⟩ G
      exact stepAt.pure (v := vs 2) rfl rfl (by go_simp) rfl
    · rintro vs u ⟨hV0, hV1, hV2, hV3, hV4, hV6, hV5, -⟩ G
      have HV2 : Hold (fun u' => (Tup (17) (TC 17 [3] ((List.range kye.length).map (zipG divG kye kxe)))) u' (vs 2)) u := hV2 rfl
      obtain ⟨A6_2, n6_2, c6_2, B6_2, m6_2, k6_2, eV2, -⟩ := HV2.now
      rw [eV2] at HV2
      have eV3 : vs 3 = .tuple #[.agg #[.slice A6_2 n6_2 c6_2, .slice B6_2 m6_2 k6_2], .int .i64 17] := (show vs 3 = vs 2 from hV3 rfl).trans eV2
      exact stepAt.pure (v := .agg #[.slice A6_2 n6_2 c6_2, .slice B6_2 m6_2 k6_2]) rfl rfl (by simp only [eV3]; go_simp) ⟨_, _, eV3, rfl⟩
    · rintro vs u ⟨hV0, hV1, hV2, hV3, hV4, hV6, hV5, -⟩ G
      exact stepAt.value (v := .pointer (some ⟨u.heap.size, 0, none⟩)) (u := u.alloc (.cells #[.slice none 0 0, .slice none 0 0] 26)) rfl rfl (by go_simp) ((Fr.refl _ _).alloc _) ⟨_, rfl, G.size, Box2.new _ _ _ _⟩
  case looses6 =>
    refine ⟨?_, trivial⟩
    · rintro vs u ⟨hV0, hV1, hV2, hV3, hV4, hV6, hV5, -⟩ G
      have HV2 : Hold (fun u' => (Tup (17) (TC 17 [3] ((List.range kye.length).map (zipG divG kye kxe)))) u' (vs 2)) u := hV2 rfl
      obtain ⟨A6_2, n6_2, c6_2, B6_2, m6_2, k6_2, eV2, -⟩ := HV2.now
      rw [eV2] at HV2
      have eV3 : vs 3 = .tuple #[.agg #[.slice A6_2 n6_2 c6_2, .slice B6_2 m6_2 k6_2], .int .i64 17] := (show vs 3 = vs 2 from hV3 rfl).trans eV2
      exact pureAt.of (v := .int .i64 17) rfl rfl (fun _ => by simp only [eV3]; go_simp) ⟨_, _, eV3, rfl⟩
  rintro vs u ⟨hV0, hV1, hV2, hV3, hV4, hV6, hV5, -⟩ G
  have eV0 : vs 0 = .agg #[.slice A4 n4 c4, .slice B4 m4 k4] := hV0
  have eV1 : vs 1 = .agg #[.slice A2 n2 c2, .slice B2 m2 k2] := hV1
  replace hV2 : Hold (fun u' => (Tup (17) (TC 17 [3] ((List.range kye.length).map (zipG divG kye kxe)))) u' (vs 2)) u := hV2
  obtain ⟨A6_2, n6_2, c6_2, B6_2, m6_2, k6_2, eV2, -⟩ := hV2.now
  rw [eV2] at hV2
  have eV3 : vs 3 = _ := (show vs 3 = vs 2 from hV3).trans eV2
  obtain ⟨x4, z4, a4, eV4⟩ := hV4
  have a4 := eV3.symm.trans a4
  cases a4
  replace eV4 : vs 4 = _ := eV4
  obtain ⟨b6_6, eV6, l6_6, y6_6⟩ := hV6
  replace eV6 : vs 6 = _ := eV6
  obtain ⟨x5, z5, a5, eV5⟩ := hV5
  have a5 := eV3.symm.trans a5
  cases a5
  replace eV5 : vs 5 = _ := eV5
  simp only [eV0, eV1, eV2, eV3, eV4, eV6, eV5]
  clear eV0 eV1 eV2 eV3 eV4 eV6 eV5 hV0 hV1 hV3
  have g0 := y6_6.free 0
  have g1 := y6_6.free 1
  have g2 := y6_6.c0
  have g3 := y6_6.c1
  refine wpTill.next 7 rfl (by kernel_rfl) (by rfl) (fun K hK => ?_)
  go_simp
  refine hK _ _ (no_wait (by kernel_rfl)) ?_
  clear hK K
  refine wpTill.next 8 rfl (by kernel_rfl) (by rfl) (fun K hK => ?_)
  go_simp
  refine hK _ _ (no_wait (by kernel_rfl)) ?_
  clear hK K
  refine wpTill.done (by kernel_rfl) ?_
  have F9 := fr_put2 u b6_6 (.slice A6_2 n6_2 c6_2) (.slice B6_2 m6_2 k6_2)
  have G9 := G.comp F9 (R := fun k => k < U5.heap.size) fun k _ hk => ⟨hk, by omega⟩
  have z6 := y6_6.set2 (.slice A6_2 n6_2 c6_2) (.slice B6_2 m6_2 k6_2)
  have T6 := (hV2.now.out.fill (.slice A6_2 n6_2 c6_2) (.slice B6_2 m6_2 k6_2) y6_6).hold
  replace xa := xa.keep G9
  replace xb := xb.keep G9
  replace z1 := z1.keep G9
  replace z2 := z2.keep G9
  replace z3 := z3.keep G9
  replace z4 := z4.keep G9
  replace z5 := z5.keep G9
  replace HX := HX.keep G9
  replace HY := HY.keep G9
  replace T1 := T1.keep G9
  replace T2 := T2.keep G9
  replace T3 := T3.keep G9
  replace T4 := T4.keep G9
  replace T5 := T5.keep G9
  replace F := fr_then F G9
  generalize (u.setCell ⟨b6_6, 0, none⟩ (.slice A6_2 n6_2 c6_2)).setCell ⟨b6_6, 1, none⟩ (.slice B6_2 m6_2 k6_2) = U6 at z6 T6 xa xb z1 z2 z3 z4 z5 HX HY T1 T2 T3 T4 T5 F ⊢
  clear g0 g1 g2 g3 F9 G9 G y6_6 l6_6 hV2
  repeat' ((fail_if_success (with_reducible refine wpTill.row (fun _ => True) 0 ?_ ?_)); go_step)
  have DR := fun R => (Fr.refl R U6).drew
  replace xa := xa.keep (DR _)
  replace xb := xb.keep (DR _)
  replace z1 := z1.keep (DR _)
  replace z2 := z2.keep (DR _)
  replace z3 := z3.keep (DR _)
  replace z4 := z4.keep (DR _)
  replace z5 := z5.keep (DR _)
  replace z6 := z6.keep (DR _)
  replace HX := HX.keep (DR _)
  replace HY := HY.keep (DR _)
  replace T1 := T1.keep (DR _)
  replace T2 := T2.keep (DR _)
  replace T3 := T3.keep (DR _)
  replace T4 := T4.keep (DR _)
  replace T5 := T5.keep (DR _)
  replace T6 := T6.keep (DR _)
  replace F := F.drew
  clear DR
  refine wpTill.begin (fun _ => True) 37 (by kernel_rfl) ?_
  change wpTill _ _ _ _ _ _ 38 _ _ _
  refine wpTill.free (jj := 37) (m := 1) [(0, Fact.eq (.agg #[.slice A1_2 n1_2 c1_2, .slice B1_2 m1_2 k1_2])),
      (1, Fact.eq (.int .i64 0)),
      (2, Fact.held (IntG [3, 0, 6])),
      (3, Fact.held (Agg (QV [3] (([3, 0, 6] : List Int).map fun z => fr z 2) 6))),
      (4, Fact.eq (.bool true)),
      (5, Fact.eq (.bool true)),
      (6, Fact.eq (.agg #[.slice A2_2 n2_2 c2_2, .slice B2_2 m2_2 k2_2])),
      (7, Fact.eq (.int .i64 0)),
      (8, Fact.held (IntG [4, -2, 0])),
      (9, Fact.held (Agg (QV [3] (([4, -2, 0] : List Int).map fun z => fr z 2) 6))),
      (10, Fact.eq (.bool true)),
      (11, Fact.eq (.bool true)),
      (12, Fact.eq (.bool true)),
      (13, Fact.eq (.agg #[.slice A3_1 n3_1 c3_1, .slice B3_1 m3_1 k3_1])),
      (14, Fact.eq (.int .i64 0)),
      (15, Fact.held (IntG [2, 0, 0])),
      (16, Fact.held (Agg (QV [3] (([2, 0, 0] : List Int).map fun z => fr z 2) 6))),
      (17, Fact.eq (.bool true)),
      (18, Fact.eq (.bool true)),
      (19, Fact.eq (.bool true)),
      (20, Fact.eq (.agg #[.slice A4_1 n4_1 c4_1, .slice B4_1 m4_1 k4_1])),
      (21, Fact.eq (.int .i64 0)),
      (22, Fact.held (IntG [2, 0, 0])),
      (23, Fact.held (Agg (QV [3] (([2, 0, 0] : List Int).map fun z => fr z 2) 6))),
      (24, Fact.eq (.bool true)),
      (25, Fact.eq (.bool true)),
      (26, Fact.eq (.bool true)),
      (27, Fact.eq (.agg #[.slice A5_1 n5_1 c5_1, .slice B5_1 m5_1 k5_1])),
      (28, Fact.eq (.int .i64 0)),
      (29, Fact.held (IntG [2, 8, 0])),
      (30, Fact.held (Agg (QV [3] (([2, 8, 0] : List Int).map fun z => fr z 2) 6))),
      (31, Fact.eq (.bool true)),
      (32, Fact.eq (.bool true)),
      (33, Fact.eq (.bool true)),
      (34, Fact.eq (.int .i64 17)),
      (35, Fact.eq (.bool true)),
      (36, Fact.eq (.bool true))] [] [0, 0, 0, 4, 15, 31, 63, 63, 63, 319, 1023, 2047, 4095, 8191, 8191, 8191, 40959, 131071, 262143, 524287, 1048575, 1048575, 1048575, 5242879, 16777215, 33554431, 67108863, 134217727, 134217727, 134217727, 671088639, 2147483647, 4294967295, 8589934591, 17179869183, 34359738367, 68719476735, 137438953471] [] ?_ (by kernel_rfl) (by kernel_rfl) (by kernel_rfl) [(0, some 54), (1, some 55), (2, some 56), (3, some 57), (4, some 58), (5, some 59), (6, some 60), (7, some 61), (8, some 62), (9, some 63), (10, some 64), (11, some 65), (12, some 66), (13, some 67), (14, some 68), (15, some 69), (16, some 70), (17, some 71), (18, some 72), (19, some 73), (20, some 74), (21, some 75), (22, some 76), (23, some 77), (24, some 78), (25, some 79), (26, some 80), (27, some 81), (28, some 82), (29, some 83), (30, some 84), (31, some 85), (32, some 86), (33, some 87), (34, some 88), (35, some 89), (36, some 90)] (by kernel_rfl) ?hA7 ?hQ7 (fun _ _ => trivial) (by kernel_rfl) ?steps7 ?looses7 ?cont7
  case hQ7 => exact fun _ _ _ _ _ h => h
  case hA7 =>
    intro vs
    simp only [fillD, List.foldl_cons, List.foldl_nil, Act.put, List.setIfInBounds_toArray, List.set_cons_zero, List.set_cons_succ]
    exact rfl
  case steps7 =>
    refine ⟨?_, ?_, ?_, ?_, ?_, ?_, ?_, ?_, ?_, ?_, ?_, ?_, ?_, ?_, ?_, ?_, ?_, ?_, ?_, ?_, ?_, ?_, ?_, ?_, ?_, ?_, ?_, ?_, ?_, ?_, ?_, ?_, ?_, ?_, ?_, ?_, ?_, trivial⟩
    · rintro vs u ⟨hV0, hV1, hV2, hV3, hV4, hV5, hV6, hV7, hV8, hV9, hV10, hV11, hV12, hV13, hV14, hV15, hV16, hV17, hV18, hV19, hV20, hV21, hV22, hV23, hV24, hV25, hV26, hV27, hV28, hV29, hV30, hV31, hV32, hV33, hV34, hV35, hV36, -⟩ G
      have o0 := (z1.keep G).c0
      have o1 := (z1.keep G).c1
      exact stepAt.pure (v := .agg #[.slice A1_2 n1_2 c1_2, .slice B1_2 m1_2 k1_2]) rfl rfl (by go_simp) rfl
    · rintro vs u ⟨hV0, hV1, hV2, hV3, hV4, hV5, hV6, hV7, hV8, hV9, hV10, hV11, hV12, hV13, hV14, hV15, hV16, hV17, hV18, hV19, hV20, hV21, hV22, hV23, hV24, hV25, hV26, hV27, hV28, hV29, hV30, hV31, hV32, hV33, hV34, hV35, hV36, -⟩ G
      exact stepAt.pure (v := .int .i64 0) rfl rfl (by go_simp) rfl
    · rintro vs u ⟨hV0, hV1, hV2, hV3, hV4, hV5, hV6, hV7, hV8, hV9, hV10, hV11, hV12, hV13, hV14, hV15, hV16, hV17, hV18, hV19, hV20, hV21, hV22, hV23, hV24, hV25, hV26, hV27, hV28, hV29, hV30, hV31, hV32, hV33, hV34, hV35, hV36, -⟩ G
      exact stepAt.value (v := .slice (some ⟨u.heap.size, 0, none⟩) 3 3) (u := u.alloc (.cells #[.int .i64 3, .int .i64 0, .int .i64 6] 3)) rfl rfl (by go_simp) ((Fr.refl _ _).alloc _) (ints_hold u 3 [3, 0, 6] _ rfl (by decide) (by decide))
    · rintro vs u ⟨hV0, hV1, hV2, hV3, hV4, hV5, hV6, hV7, hV8, hV9, hV10, hV11, hV12, hV13, hV14, hV15, hV16, hV17, hV18, hV19, hV20, hV21, hV22, hV23, hV24, hV25, hV26, hV27, hV28, hV29, hV30, hV31, hV32, hV33, hV34, hV35, hV36, -⟩ G
      refine stepAt.call (f := 47) (args := #[vs 2]) rfl rfl (by go_simp) ?_
      have HV2 : Hold (fun u' => (IntG [3, 0, 6]) u' (vs 2)) u := hV2 rfl
      obtain ⟨A7_2, n7_2, c7_2, eV2, -⟩ := HV2.now
      rw [eV2] at HV2
      rw [eV2]
      exact row_u HV2.now (by decide)
    · rintro vs u ⟨hV0, hV1, hV2, hV3, hV4, hV5, hV6, hV7, hV8, hV9, hV10, hV11, hV12, hV13, hV14, hV15, hV16, hV17, hV18, hV19, hV20, hV21, hV22, hV23, hV24, hV25, hV26, hV27, hV28, hV29, hV30, hV31, hV32, hV33, hV34, hV35, hV36, -⟩ G
      refine stepAt.call (f := 48) (args := #[vs 0, vs 1, vs 3]) rfl rfl (by go_simp) ?_
      have eV0 : vs 0 = .agg #[.slice A1_2 n1_2 c1_2, .slice B1_2 m1_2 k1_2] := hV0 rfl
      have eV1 : vs 1 = .int .i64 0 := hV1 rfl
      have HV3 : Hold (fun u' => (Agg (QV [3] (([3, 0, 6] : List Int).map fun z => fr z 2) 6)) u' (vs 3)) u := hV3 rfl
      obtain ⟨A7_3, n7_3, c7_3, B7_3, m7_3, k7_3, eV3, -⟩ := HV3.now
      rw [eV3] at HV3
      rw [eV0, eV1, eV3]
      exact (is_u (T1.at G) HV3.now.out (Lib.hid k_add) (by decide)).mono fun _ _ ⟨v, h1, h2, h3⟩ => ⟨v, h1, h2, h3.now⟩
    · rintro vs u ⟨hV0, hV1, hV2, hV3, hV4, hV5, hV6, hV7, hV8, hV9, hV10, hV11, hV12, hV13, hV14, hV15, hV16, hV17, hV18, hV19, hV20, hV21, hV22, hV23, hV24, hV25, hV26, hV27, hV28, hV29, hV30, hV31, hV32, hV33, hV34, hV35, hV36, -⟩ G
      have eV4 : vs 4 = .bool true := hV4 rfl
      exact stepAt.pure (v := .bool true) rfl rfl (by simp only [eV4]; go_simp) rfl
    · rintro vs u ⟨hV0, hV1, hV2, hV3, hV4, hV5, hV6, hV7, hV8, hV9, hV10, hV11, hV12, hV13, hV14, hV15, hV16, hV17, hV18, hV19, hV20, hV21, hV22, hV23, hV24, hV25, hV26, hV27, hV28, hV29, hV30, hV31, hV32, hV33, hV34, hV35, hV36, -⟩ G
      have o0 := (z2.keep G).c0
      have o1 := (z2.keep G).c1
      exact stepAt.pure (v := .agg #[.slice A2_2 n2_2 c2_2, .slice B2_2 m2_2 k2_2]) rfl (wanted_by (g := 5) (b := true) (t := 59) rfl (by kernel_rfl) (congrArg some (show vs 5 = _ from hV5 rfl))) (by go_simp) rfl
    · rintro vs u ⟨hV0, hV1, hV2, hV3, hV4, hV5, hV6, hV7, hV8, hV9, hV10, hV11, hV12, hV13, hV14, hV15, hV16, hV17, hV18, hV19, hV20, hV21, hV22, hV23, hV24, hV25, hV26, hV27, hV28, hV29, hV30, hV31, hV32, hV33, hV34, hV35, hV36, -⟩ G
      exact stepAt.pure (v := .int .i64 0) rfl (wanted_by (g := 5) (b := true) (t := 59) rfl (by kernel_rfl) (congrArg some (show vs 5 = _ from hV5 rfl))) (by go_simp) rfl
    · rintro vs u ⟨hV0, hV1, hV2, hV3, hV4, hV5, hV6, hV7, hV8, hV9, hV10, hV11, hV12, hV13, hV14, hV15, hV16, hV17, hV18, hV19, hV20, hV21, hV22, hV23, hV24, hV25, hV26, hV27, hV28, hV29, hV30, hV31, hV32, hV33, hV34, hV35, hV36, -⟩ G
      exact stepAt.value (v := .slice (some ⟨u.heap.size, 0, none⟩) 3 3) (u := u.alloc (.cells #[.int .i64 4, .int .i64 (-2), .int .i64 0] 3)) rfl (wanted_by (g := 5) (b := true) (t := 59) rfl (by kernel_rfl) (congrArg some (show vs 5 = _ from hV5 rfl))) (by go_simp) ((Fr.refl _ _).alloc _) (ints_hold u 3 [4, -2, 0] _ rfl (by decide) (by decide))
    · rintro vs u ⟨hV0, hV1, hV2, hV3, hV4, hV5, hV6, hV7, hV8, hV9, hV10, hV11, hV12, hV13, hV14, hV15, hV16, hV17, hV18, hV19, hV20, hV21, hV22, hV23, hV24, hV25, hV26, hV27, hV28, hV29, hV30, hV31, hV32, hV33, hV34, hV35, hV36, -⟩ G
      refine stepAt.call (f := 47) (args := #[vs 8]) rfl (wanted_by (g := 5) (b := true) (t := 59) rfl (by kernel_rfl) (congrArg some (show vs 5 = _ from hV5 rfl))) (by go_simp) ?_
      have HV8 : Hold (fun u' => (IntG [4, -2, 0]) u' (vs 8)) u := hV8 rfl
      obtain ⟨A7_8, n7_8, c7_8, eV8, -⟩ := HV8.now
      rw [eV8] at HV8
      rw [eV8]
      exact row_u HV8.now (by decide)
    · rintro vs u ⟨hV0, hV1, hV2, hV3, hV4, hV5, hV6, hV7, hV8, hV9, hV10, hV11, hV12, hV13, hV14, hV15, hV16, hV17, hV18, hV19, hV20, hV21, hV22, hV23, hV24, hV25, hV26, hV27, hV28, hV29, hV30, hV31, hV32, hV33, hV34, hV35, hV36, -⟩ G
      refine stepAt.call (f := 48) (args := #[vs 6, vs 7, vs 9]) rfl (wanted_by (g := 5) (b := true) (t := 59) rfl (by kernel_rfl) (congrArg some (show vs 5 = _ from hV5 rfl))) (by go_simp) ?_
      have eV6 : vs 6 = .agg #[.slice A2_2 n2_2 c2_2, .slice B2_2 m2_2 k2_2] := hV6 rfl
      have eV7 : vs 7 = .int .i64 0 := hV7 rfl
      have HV9 : Hold (fun u' => (Agg (QV [3] (([4, -2, 0] : List Int).map fun z => fr z 2) 6)) u' (vs 9)) u := hV9 rfl
      obtain ⟨A7_9, n7_9, c7_9, B7_9, m7_9, k7_9, eV9, -⟩ := HV9.now
      rw [eV9] at HV9
      rw [eV6, eV7, eV9]
      exact (is_u (T2.at G) HV9.now.out (Lib.hid k_div) (by decide)).mono fun _ _ ⟨v, h1, h2, h3⟩ => ⟨v, h1, h2, h3.now⟩
    · rintro vs u ⟨hV0, hV1, hV2, hV3, hV4, hV5, hV6, hV7, hV8, hV9, hV10, hV11, hV12, hV13, hV14, hV15, hV16, hV17, hV18, hV19, hV20, hV21, hV22, hV23, hV24, hV25, hV26, hV27, hV28, hV29, hV30, hV31, hV32, hV33, hV34, hV35, hV36, -⟩ G
      have eV5 : vs 5 = .bool true := hV5 rfl
      have eV10 : vs 10 = .bool true := hV10 rfl
      exact stepAt.pure (v := .bool true) rfl rfl (by simp only [eV5, eV10]; go_simp) rfl
    · rintro vs u ⟨hV0, hV1, hV2, hV3, hV4, hV5, hV6, hV7, hV8, hV9, hV10, hV11, hV12, hV13, hV14, hV15, hV16, hV17, hV18, hV19, hV20, hV21, hV22, hV23, hV24, hV25, hV26, hV27, hV28, hV29, hV30, hV31, hV32, hV33, hV34, hV35, hV36, -⟩ G
      have eV11 : vs 11 = .bool true := hV11 rfl
      exact stepAt.pure (v := .bool true) rfl rfl (by simp only [eV11]; go_simp) rfl
    · rintro vs u ⟨hV0, hV1, hV2, hV3, hV4, hV5, hV6, hV7, hV8, hV9, hV10, hV11, hV12, hV13, hV14, hV15, hV16, hV17, hV18, hV19, hV20, hV21, hV22, hV23, hV24, hV25, hV26, hV27, hV28, hV29, hV30, hV31, hV32, hV33, hV34, hV35, hV36, -⟩ G
      have o0 := (z3.keep G).c0
      have o1 := (z3.keep G).c1
      exact stepAt.pure (v := .agg #[.slice A3_1 n3_1 c3_1, .slice B3_1 m3_1 k3_1]) rfl (wanted_by (g := 12) (b := true) (t := 66) rfl (by kernel_rfl) (congrArg some (show vs 12 = _ from hV12 rfl))) (by go_simp) rfl
    · rintro vs u ⟨hV0, hV1, hV2, hV3, hV4, hV5, hV6, hV7, hV8, hV9, hV10, hV11, hV12, hV13, hV14, hV15, hV16, hV17, hV18, hV19, hV20, hV21, hV22, hV23, hV24, hV25, hV26, hV27, hV28, hV29, hV30, hV31, hV32, hV33, hV34, hV35, hV36, -⟩ G
      exact stepAt.pure (v := .int .i64 0) rfl (wanted_by (g := 12) (b := true) (t := 66) rfl (by kernel_rfl) (congrArg some (show vs 12 = _ from hV12 rfl))) (by go_simp) rfl
    · rintro vs u ⟨hV0, hV1, hV2, hV3, hV4, hV5, hV6, hV7, hV8, hV9, hV10, hV11, hV12, hV13, hV14, hV15, hV16, hV17, hV18, hV19, hV20, hV21, hV22, hV23, hV24, hV25, hV26, hV27, hV28, hV29, hV30, hV31, hV32, hV33, hV34, hV35, hV36, -⟩ G
      exact stepAt.value (v := .slice (some ⟨u.heap.size, 0, none⟩) 3 3) (u := u.alloc (.cells #[.int .i64 2, .int .i64 0, .int .i64 0] 3)) rfl (wanted_by (g := 12) (b := true) (t := 66) rfl (by kernel_rfl) (congrArg some (show vs 12 = _ from hV12 rfl))) (by go_simp) ((Fr.refl _ _).alloc _) (ints_hold u 3 [2, 0, 0] _ rfl (by decide) (by decide))
    · rintro vs u ⟨hV0, hV1, hV2, hV3, hV4, hV5, hV6, hV7, hV8, hV9, hV10, hV11, hV12, hV13, hV14, hV15, hV16, hV17, hV18, hV19, hV20, hV21, hV22, hV23, hV24, hV25, hV26, hV27, hV28, hV29, hV30, hV31, hV32, hV33, hV34, hV35, hV36, -⟩ G
      refine stepAt.call (f := 47) (args := #[vs 15]) rfl (wanted_by (g := 12) (b := true) (t := 66) rfl (by kernel_rfl) (congrArg some (show vs 12 = _ from hV12 rfl))) (by go_simp) ?_
      have HV15 : Hold (fun u' => (IntG [2, 0, 0]) u' (vs 15)) u := hV15 rfl
      obtain ⟨A7_15, n7_15, c7_15, eV15, -⟩ := HV15.now
      rw [eV15] at HV15
      rw [eV15]
      exact row_u HV15.now (by decide)
    · rintro vs u ⟨hV0, hV1, hV2, hV3, hV4, hV5, hV6, hV7, hV8, hV9, hV10, hV11, hV12, hV13, hV14, hV15, hV16, hV17, hV18, hV19, hV20, hV21, hV22, hV23, hV24, hV25, hV26, hV27, hV28, hV29, hV30, hV31, hV32, hV33, hV34, hV35, hV36, -⟩ G
      refine stepAt.call (f := 48) (args := #[vs 13, vs 14, vs 16]) rfl (wanted_by (g := 12) (b := true) (t := 66) rfl (by kernel_rfl) (congrArg some (show vs 12 = _ from hV12 rfl))) (by go_simp) ?_
      have eV13 : vs 13 = .agg #[.slice A3_1 n3_1 c3_1, .slice B3_1 m3_1 k3_1] := hV13 rfl
      have eV14 : vs 14 = .int .i64 0 := hV14 rfl
      have HV16 : Hold (fun u' => (Agg (QV [3] (([2, 0, 0] : List Int).map fun z => fr z 2) 6)) u' (vs 16)) u := hV16 rfl
      obtain ⟨A7_16, n7_16, c7_16, B7_16, m7_16, k7_16, eV16, -⟩ := HV16.now
      rw [eV16] at HV16
      rw [eV13, eV14, eV16]
      exact (is_u (T3.at G) HV16.now.out (Lib.hid k_relu) (by decide)).mono fun _ _ ⟨v, h1, h2, h3⟩ => ⟨v, h1, h2, h3.now⟩
    · rintro vs u ⟨hV0, hV1, hV2, hV3, hV4, hV5, hV6, hV7, hV8, hV9, hV10, hV11, hV12, hV13, hV14, hV15, hV16, hV17, hV18, hV19, hV20, hV21, hV22, hV23, hV24, hV25, hV26, hV27, hV28, hV29, hV30, hV31, hV32, hV33, hV34, hV35, hV36, -⟩ G
      have eV12 : vs 12 = .bool true := hV12 rfl
      have eV17 : vs 17 = .bool true := hV17 rfl
      exact stepAt.pure (v := .bool true) rfl rfl (by simp only [eV12, eV17]; go_simp) rfl
    · rintro vs u ⟨hV0, hV1, hV2, hV3, hV4, hV5, hV6, hV7, hV8, hV9, hV10, hV11, hV12, hV13, hV14, hV15, hV16, hV17, hV18, hV19, hV20, hV21, hV22, hV23, hV24, hV25, hV26, hV27, hV28, hV29, hV30, hV31, hV32, hV33, hV34, hV35, hV36, -⟩ G
      have eV18 : vs 18 = .bool true := hV18 rfl
      exact stepAt.pure (v := .bool true) rfl rfl (by simp only [eV18]; go_simp) rfl
    · rintro vs u ⟨hV0, hV1, hV2, hV3, hV4, hV5, hV6, hV7, hV8, hV9, hV10, hV11, hV12, hV13, hV14, hV15, hV16, hV17, hV18, hV19, hV20, hV21, hV22, hV23, hV24, hV25, hV26, hV27, hV28, hV29, hV30, hV31, hV32, hV33, hV34, hV35, hV36, -⟩ G
      have o0 := (z4.keep G).c0
      have o1 := (z4.keep G).c1
      exact stepAt.pure (v := .agg #[.slice A4_1 n4_1 c4_1, .slice B4_1 m4_1 k4_1]) rfl (wanted_by (g := 19) (b := true) (t := 73) rfl (by kernel_rfl) (congrArg some (show vs 19 = _ from hV19 rfl))) (by go_simp) rfl
    · rintro vs u ⟨hV0, hV1, hV2, hV3, hV4, hV5, hV6, hV7, hV8, hV9, hV10, hV11, hV12, hV13, hV14, hV15, hV16, hV17, hV18, hV19, hV20, hV21, hV22, hV23, hV24, hV25, hV26, hV27, hV28, hV29, hV30, hV31, hV32, hV33, hV34, hV35, hV36, -⟩ G
      exact stepAt.pure (v := .int .i64 0) rfl (wanted_by (g := 19) (b := true) (t := 73) rfl (by kernel_rfl) (congrArg some (show vs 19 = _ from hV19 rfl))) (by go_simp) rfl
    · rintro vs u ⟨hV0, hV1, hV2, hV3, hV4, hV5, hV6, hV7, hV8, hV9, hV10, hV11, hV12, hV13, hV14, hV15, hV16, hV17, hV18, hV19, hV20, hV21, hV22, hV23, hV24, hV25, hV26, hV27, hV28, hV29, hV30, hV31, hV32, hV33, hV34, hV35, hV36, -⟩ G
      exact stepAt.value (v := .slice (some ⟨u.heap.size, 0, none⟩) 3 3) (u := u.alloc (.cells #[.int .i64 2, .int .i64 0, .int .i64 0] 3)) rfl (wanted_by (g := 19) (b := true) (t := 73) rfl (by kernel_rfl) (congrArg some (show vs 19 = _ from hV19 rfl))) (by go_simp) ((Fr.refl _ _).alloc _) (ints_hold u 3 [2, 0, 0] _ rfl (by decide) (by decide))
    · rintro vs u ⟨hV0, hV1, hV2, hV3, hV4, hV5, hV6, hV7, hV8, hV9, hV10, hV11, hV12, hV13, hV14, hV15, hV16, hV17, hV18, hV19, hV20, hV21, hV22, hV23, hV24, hV25, hV26, hV27, hV28, hV29, hV30, hV31, hV32, hV33, hV34, hV35, hV36, -⟩ G
      refine stepAt.call (f := 47) (args := #[vs 22]) rfl (wanted_by (g := 19) (b := true) (t := 73) rfl (by kernel_rfl) (congrArg some (show vs 19 = _ from hV19 rfl))) (by go_simp) ?_
      have HV22 : Hold (fun u' => (IntG [2, 0, 0]) u' (vs 22)) u := hV22 rfl
      obtain ⟨A7_22, n7_22, c7_22, eV22, -⟩ := HV22.now
      rw [eV22] at HV22
      rw [eV22]
      exact row_u HV22.now (by decide)
    · rintro vs u ⟨hV0, hV1, hV2, hV3, hV4, hV5, hV6, hV7, hV8, hV9, hV10, hV11, hV12, hV13, hV14, hV15, hV16, hV17, hV18, hV19, hV20, hV21, hV22, hV23, hV24, hV25, hV26, hV27, hV28, hV29, hV30, hV31, hV32, hV33, hV34, hV35, hV36, -⟩ G
      refine stepAt.call (f := 48) (args := #[vs 20, vs 21, vs 23]) rfl (wanted_by (g := 19) (b := true) (t := 73) rfl (by kernel_rfl) (congrArg some (show vs 19 = _ from hV19 rfl))) (by go_simp) ?_
      have eV20 : vs 20 = .agg #[.slice A4_1 n4_1 c4_1, .slice B4_1 m4_1 k4_1] := hV20 rfl
      have eV21 : vs 21 = .int .i64 0 := hV21 rfl
      have HV23 : Hold (fun u' => (Agg (QV [3] (([2, 0, 0] : List Int).map fun z => fr z 2) 6)) u' (vs 23)) u := hV23 rfl
      obtain ⟨A7_23, n7_23, c7_23, B7_23, m7_23, k7_23, eV23, -⟩ := HV23.now
      rw [eV23] at HV23
      rw [eV20, eV21, eV23]
      exact (is_u (T4.at G) HV23.now.out (Lib.hid k_step) (by decide)).mono fun _ _ ⟨v, h1, h2, h3⟩ => ⟨v, h1, h2, h3.now⟩
    · rintro vs u ⟨hV0, hV1, hV2, hV3, hV4, hV5, hV6, hV7, hV8, hV9, hV10, hV11, hV12, hV13, hV14, hV15, hV16, hV17, hV18, hV19, hV20, hV21, hV22, hV23, hV24, hV25, hV26, hV27, hV28, hV29, hV30, hV31, hV32, hV33, hV34, hV35, hV36, -⟩ G
      have eV19 : vs 19 = .bool true := hV19 rfl
      have eV24 : vs 24 = .bool true := hV24 rfl
      exact stepAt.pure (v := .bool true) rfl rfl (by simp only [eV19, eV24]; go_simp) rfl
    · rintro vs u ⟨hV0, hV1, hV2, hV3, hV4, hV5, hV6, hV7, hV8, hV9, hV10, hV11, hV12, hV13, hV14, hV15, hV16, hV17, hV18, hV19, hV20, hV21, hV22, hV23, hV24, hV25, hV26, hV27, hV28, hV29, hV30, hV31, hV32, hV33, hV34, hV35, hV36, -⟩ G
      have eV25 : vs 25 = .bool true := hV25 rfl
      exact stepAt.pure (v := .bool true) rfl rfl (by simp only [eV25]; go_simp) rfl
    · rintro vs u ⟨hV0, hV1, hV2, hV3, hV4, hV5, hV6, hV7, hV8, hV9, hV10, hV11, hV12, hV13, hV14, hV15, hV16, hV17, hV18, hV19, hV20, hV21, hV22, hV23, hV24, hV25, hV26, hV27, hV28, hV29, hV30, hV31, hV32, hV33, hV34, hV35, hV36, -⟩ G
      have o0 := (z5.keep G).c0
      have o1 := (z5.keep G).c1
      exact stepAt.pure (v := .agg #[.slice A5_1 n5_1 c5_1, .slice B5_1 m5_1 k5_1]) rfl (wanted_by (g := 26) (b := true) (t := 80) rfl (by kernel_rfl) (congrArg some (show vs 26 = _ from hV26 rfl))) (by go_simp) rfl
    · rintro vs u ⟨hV0, hV1, hV2, hV3, hV4, hV5, hV6, hV7, hV8, hV9, hV10, hV11, hV12, hV13, hV14, hV15, hV16, hV17, hV18, hV19, hV20, hV21, hV22, hV23, hV24, hV25, hV26, hV27, hV28, hV29, hV30, hV31, hV32, hV33, hV34, hV35, hV36, -⟩ G
      exact stepAt.pure (v := .int .i64 0) rfl (wanted_by (g := 26) (b := true) (t := 80) rfl (by kernel_rfl) (congrArg some (show vs 26 = _ from hV26 rfl))) (by go_simp) rfl
    · rintro vs u ⟨hV0, hV1, hV2, hV3, hV4, hV5, hV6, hV7, hV8, hV9, hV10, hV11, hV12, hV13, hV14, hV15, hV16, hV17, hV18, hV19, hV20, hV21, hV22, hV23, hV24, hV25, hV26, hV27, hV28, hV29, hV30, hV31, hV32, hV33, hV34, hV35, hV36, -⟩ G
      exact stepAt.value (v := .slice (some ⟨u.heap.size, 0, none⟩) 3 3) (u := u.alloc (.cells #[.int .i64 2, .int .i64 8, .int .i64 0] 3)) rfl (wanted_by (g := 26) (b := true) (t := 80) rfl (by kernel_rfl) (congrArg some (show vs 26 = _ from hV26 rfl))) (by go_simp) ((Fr.refl _ _).alloc _) (ints_hold u 3 [2, 8, 0] _ rfl (by decide) (by decide))
    · rintro vs u ⟨hV0, hV1, hV2, hV3, hV4, hV5, hV6, hV7, hV8, hV9, hV10, hV11, hV12, hV13, hV14, hV15, hV16, hV17, hV18, hV19, hV20, hV21, hV22, hV23, hV24, hV25, hV26, hV27, hV28, hV29, hV30, hV31, hV32, hV33, hV34, hV35, hV36, -⟩ G
      refine stepAt.call (f := 47) (args := #[vs 29]) rfl (wanted_by (g := 26) (b := true) (t := 80) rfl (by kernel_rfl) (congrArg some (show vs 26 = _ from hV26 rfl))) (by go_simp) ?_
      have HV29 : Hold (fun u' => (IntG [2, 8, 0]) u' (vs 29)) u := hV29 rfl
      obtain ⟨A7_29, n7_29, c7_29, eV29, -⟩ := HV29.now
      rw [eV29] at HV29
      rw [eV29]
      exact row_u HV29.now (by decide)
    · rintro vs u ⟨hV0, hV1, hV2, hV3, hV4, hV5, hV6, hV7, hV8, hV9, hV10, hV11, hV12, hV13, hV14, hV15, hV16, hV17, hV18, hV19, hV20, hV21, hV22, hV23, hV24, hV25, hV26, hV27, hV28, hV29, hV30, hV31, hV32, hV33, hV34, hV35, hV36, -⟩ G
      refine stepAt.call (f := 48) (args := #[vs 27, vs 28, vs 30]) rfl (wanted_by (g := 26) (b := true) (t := 80) rfl (by kernel_rfl) (congrArg some (show vs 26 = _ from hV26 rfl))) (by go_simp) ?_
      have eV27 : vs 27 = .agg #[.slice A5_1 n5_1 c5_1, .slice B5_1 m5_1 k5_1] := hV27 rfl
      have eV28 : vs 28 = .int .i64 0 := hV28 rfl
      have HV30 : Hold (fun u' => (Agg (QV [3] (([2, 8, 0] : List Int).map fun z => fr z 2) 6)) u' (vs 30)) u := hV30 rfl
      obtain ⟨A7_30, n7_30, c7_30, B7_30, m7_30, k7_30, eV30, -⟩ := HV30.now
      rw [eV30] at HV30
      rw [eV27, eV28, eV30]
      exact (is_u (T5.at G) HV30.now.out (Lib.hid k_pow) (by decide)).mono fun _ _ ⟨v, h1, h2, h3⟩ => ⟨v, h1, h2, h3.now⟩
    · rintro vs u ⟨hV0, hV1, hV2, hV3, hV4, hV5, hV6, hV7, hV8, hV9, hV10, hV11, hV12, hV13, hV14, hV15, hV16, hV17, hV18, hV19, hV20, hV21, hV22, hV23, hV24, hV25, hV26, hV27, hV28, hV29, hV30, hV31, hV32, hV33, hV34, hV35, hV36, -⟩ G
      have eV26 : vs 26 = .bool true := hV26 rfl
      have eV31 : vs 31 = .bool true := hV31 rfl
      exact stepAt.pure (v := .bool true) rfl rfl (by simp only [eV26, eV31]; go_simp) rfl
    · rintro vs u ⟨hV0, hV1, hV2, hV3, hV4, hV5, hV6, hV7, hV8, hV9, hV10, hV11, hV12, hV13, hV14, hV15, hV16, hV17, hV18, hV19, hV20, hV21, hV22, hV23, hV24, hV25, hV26, hV27, hV28, hV29, hV30, hV31, hV32, hV33, hV34, hV35, hV36, -⟩ G
      have eV32 : vs 32 = .bool true := hV32 rfl
      exact stepAt.pure (v := .bool true) rfl rfl (by simp only [eV32]; go_simp) rfl
    · rintro vs u ⟨hV0, hV1, hV2, hV3, hV4, hV5, hV6, hV7, hV8, hV9, hV10, hV11, hV12, hV13, hV14, hV15, hV16, hV17, hV18, hV19, hV20, hV21, hV22, hV23, hV24, hV25, hV26, hV27, hV28, hV29, hV30, hV31, hV32, hV33, hV34, hV35, hV36, -⟩ G
      exact stepAt.pure (v := .int .i64 17) rfl (wanted_by (g := 33) (b := true) (t := 87) rfl (by kernel_rfl) (congrArg some (show vs 33 = _ from hV33 rfl))) (by go_simp) rfl
    · rintro vs u ⟨hV0, hV1, hV2, hV3, hV4, hV5, hV6, hV7, hV8, hV9, hV10, hV11, hV12, hV13, hV14, hV15, hV16, hV17, hV18, hV19, hV20, hV21, hV22, hV23, hV24, hV25, hV26, hV27, hV28, hV29, hV30, hV31, hV32, hV33, hV34, hV35, hV36, -⟩ G
      have eV34 : vs 34 = .int .i64 17 := hV34 rfl
      exact stepAt.pure (v := .bool true) rfl (wanted_by (g := 33) (b := true) (t := 87) rfl (by kernel_rfl) (congrArg some (show vs 33 = _ from hV33 rfl))) (by simp only [eV34]; go_simp) rfl
    · rintro vs u ⟨hV0, hV1, hV2, hV3, hV4, hV5, hV6, hV7, hV8, hV9, hV10, hV11, hV12, hV13, hV14, hV15, hV16, hV17, hV18, hV19, hV20, hV21, hV22, hV23, hV24, hV25, hV26, hV27, hV28, hV29, hV30, hV31, hV32, hV33, hV34, hV35, hV36, -⟩ G
      have eV33 : vs 33 = .bool true := hV33 rfl
      have eV35 : vs 35 = .bool true := hV35 rfl
      exact stepAt.pure (v := .bool true) rfl rfl (by simp only [eV33, eV35]; go_simp) rfl
  case looses7 =>
    exact trivial
  rintro vs U7 ⟨hV0, hV1, hV2, hV3, hV4, hV5, hV6, hV7, hV8, hV9, hV10, hV11, hV12, hV13, hV14, hV15, hV16, hV17, hV18, hV19, hV20, hV21, hV22, hV23, hV24, hV25, hV26, hV27, hV28, hV29, hV30, hV31, hV32, hV33, hV34, hV35, hV36, -⟩ G
  have eV0 : vs 0 = .agg #[.slice A1_2 n1_2 c1_2, .slice B1_2 m1_2 k1_2] := hV0
  have eV1 : vs 1 = .int .i64 0 := hV1
  replace hV2 : Hold (fun u' => (IntG [3, 0, 6]) u' (vs 2)) U7 := hV2
  obtain ⟨A7_2, n7_2, c7_2, eV2, -⟩ := hV2.now
  rw [eV2] at hV2
  replace hV3 : Hold (fun u' => (Agg (QV [3] (([3, 0, 6] : List Int).map fun z => fr z 2) 6)) u' (vs 3)) U7 := hV3
  obtain ⟨A7_3, n7_3, c7_3, B7_3, m7_3, k7_3, eV3, -⟩ := hV3.now
  rw [eV3] at hV3
  have eV4 : vs 4 = .bool true := hV4
  have eV5 : vs 5 = .bool true := hV5
  have eV6 : vs 6 = .agg #[.slice A2_2 n2_2 c2_2, .slice B2_2 m2_2 k2_2] := hV6
  have eV7 : vs 7 = .int .i64 0 := hV7
  replace hV8 : Hold (fun u' => (IntG [4, -2, 0]) u' (vs 8)) U7 := hV8
  obtain ⟨A7_8, n7_8, c7_8, eV8, -⟩ := hV8.now
  rw [eV8] at hV8
  replace hV9 : Hold (fun u' => (Agg (QV [3] (([4, -2, 0] : List Int).map fun z => fr z 2) 6)) u' (vs 9)) U7 := hV9
  obtain ⟨A7_9, n7_9, c7_9, B7_9, m7_9, k7_9, eV9, -⟩ := hV9.now
  rw [eV9] at hV9
  have eV10 : vs 10 = .bool true := hV10
  have eV11 : vs 11 = .bool true := hV11
  have eV12 : vs 12 = .bool true := hV12
  have eV13 : vs 13 = .agg #[.slice A3_1 n3_1 c3_1, .slice B3_1 m3_1 k3_1] := hV13
  have eV14 : vs 14 = .int .i64 0 := hV14
  replace hV15 : Hold (fun u' => (IntG [2, 0, 0]) u' (vs 15)) U7 := hV15
  obtain ⟨A7_15, n7_15, c7_15, eV15, -⟩ := hV15.now
  rw [eV15] at hV15
  replace hV16 : Hold (fun u' => (Agg (QV [3] (([2, 0, 0] : List Int).map fun z => fr z 2) 6)) u' (vs 16)) U7 := hV16
  obtain ⟨A7_16, n7_16, c7_16, B7_16, m7_16, k7_16, eV16, -⟩ := hV16.now
  rw [eV16] at hV16
  have eV17 : vs 17 = .bool true := hV17
  have eV18 : vs 18 = .bool true := hV18
  have eV19 : vs 19 = .bool true := hV19
  have eV20 : vs 20 = .agg #[.slice A4_1 n4_1 c4_1, .slice B4_1 m4_1 k4_1] := hV20
  have eV21 : vs 21 = .int .i64 0 := hV21
  replace hV22 : Hold (fun u' => (IntG [2, 0, 0]) u' (vs 22)) U7 := hV22
  obtain ⟨A7_22, n7_22, c7_22, eV22, -⟩ := hV22.now
  rw [eV22] at hV22
  replace hV23 : Hold (fun u' => (Agg (QV [3] (([2, 0, 0] : List Int).map fun z => fr z 2) 6)) u' (vs 23)) U7 := hV23
  obtain ⟨A7_23, n7_23, c7_23, B7_23, m7_23, k7_23, eV23, -⟩ := hV23.now
  rw [eV23] at hV23
  have eV24 : vs 24 = .bool true := hV24
  have eV25 : vs 25 = .bool true := hV25
  have eV26 : vs 26 = .bool true := hV26
  have eV27 : vs 27 = .agg #[.slice A5_1 n5_1 c5_1, .slice B5_1 m5_1 k5_1] := hV27
  have eV28 : vs 28 = .int .i64 0 := hV28
  replace hV29 : Hold (fun u' => (IntG [2, 8, 0]) u' (vs 29)) U7 := hV29
  obtain ⟨A7_29, n7_29, c7_29, eV29, -⟩ := hV29.now
  rw [eV29] at hV29
  replace hV30 : Hold (fun u' => (Agg (QV [3] (([2, 8, 0] : List Int).map fun z => fr z 2) 6)) u' (vs 30)) U7 := hV30
  obtain ⟨A7_30, n7_30, c7_30, B7_30, m7_30, k7_30, eV30, -⟩ := hV30.now
  rw [eV30] at hV30
  have eV31 : vs 31 = .bool true := hV31
  have eV32 : vs 32 = .bool true := hV32
  have eV33 : vs 33 = .bool true := hV33
  have eV34 : vs 34 = .int .i64 17 := hV34
  have eV35 : vs 35 = .bool true := hV35
  have eV36 : vs 36 = .bool true := hV36
  simp only [eV0, eV1, eV2, eV3, eV4, eV5, eV6, eV7, eV8, eV9, eV10, eV11, eV12, eV13, eV14, eV15, eV16, eV17, eV18, eV19, eV20, eV21, eV22, eV23, eV24, eV25, eV26, eV27, eV28, eV29, eV30, eV31, eV32, eV33, eV34, eV35, eV36]
  clear eV0 eV1 eV2 eV3 eV4 eV5 eV6 eV7 eV8 eV9 eV10 eV11 eV12 eV13 eV14 eV15 eV16 eV17 eV18 eV19 eV20 eV21 eV22 eV23 eV24 eV25 eV26 eV27 eV28 eV29 eV30 eV31 eV32 eV33 eV34 eV35 eV36 hV0 hV1 hV4 hV5 hV6 hV7 hV10 hV11 hV12 hV13 hV14 hV17 hV18 hV19 hV20 hV21 hV24 hV25 hV26 hV27 hV28 hV31 hV32 hV33 hV34 hV35 hV36
  refine wpTill.next 37 rfl (by kernel_rfl) (by rfl) (fun K hK => ?_)
  go_simp
  refine hK _ _ (no_wait (by kernel_rfl)) ?_
  clear hK K
  refine wpTill.done (by kernel_rfl) ?_
  replace xa := xa.keep G
  replace xb := xb.keep G
  replace z1 := z1.keep G
  replace z2 := z2.keep G
  replace z3 := z3.keep G
  replace z4 := z4.keep G
  replace z5 := z5.keep G
  replace z6 := z6.keep G
  replace HX := HX.keep G
  replace HY := HY.keep G
  replace T1 := T1.keep G
  replace T2 := T2.keep G
  replace T3 := T3.keep G
  replace T4 := T4.keep G
  replace T5 := T5.keep G
  replace T6 := T6.keep G
  replace F := fr_then F G
  clear G
  repeat' ((fail_if_success (with_reducible refine wpTill.row (fun _ => True) 0 ?_ ?_)); go_step)
  go_ret
  exact ⟨rfl, F⟩
end Go.Proofs.YtlknmoegngjpcaaGreat
