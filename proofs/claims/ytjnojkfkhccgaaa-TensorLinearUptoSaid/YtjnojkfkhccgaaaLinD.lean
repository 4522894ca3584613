import Derived.Test.YtjnojkfkhccgaaaLinC
import Derived.Test.YtjnojkfkhccgaaaTenZ

/- TensorLinear. -/
namespace Go.Proofs.Ytjnojkfkhccgaaa
open Go.RowKit

theorem dot_ok {S T U V : Nat → Prop} (w : World) (va vea vb veb : Value) (sh : List Int) (ea eb : List RatL) (L K : Nat) (q : Rat) (hq : Hid (q = dotT ea eb)) (ha : Sl Im S w va sh) (hea : Sl Rm T w vea ea) (hb : Sl Im U w vb sh) (heb : Sl Rm V w veb eb) (m1 : Hid (mayT sh ea = 0)) (m2 : Hid (mayT sh eb = 0))
    (hLa : Hid (∀ x ∈ ea, x.2.1.length ≤ L ∧ x.2.2.length ≤ L)) (hLb : Hid (∀ x ∈ eb, x.2.1.length ≤ L ∧ x.2.2.length ≤ L)) (hL1 : 1 ≤ L) (hKL : 6 * L ≤ K) (hK6 : K ≤ 104857600)
    (hK : Hid (∀ pre : List (Fin ea.length), pre.length ≤ ea.length → (dg LB (dotQ ea eb pre).num.natAbs).length ≤ K ∧ (dg LB (dotQ ea eb pre).den).length ≤ K)) :
    Calls Try.prog 10 #[.agg #[va, vea], .agg #[vb, veb]] w fun e w' => ∃ s P i j Q m k, e = .returned (.tuple #[.agg #[.bool s, .slice P i j, .slice Q m k], .int .i64 0]) ∧ Hid (s = sg q) ∧ Hid (SV w' (.slice P i j) (.slice Q m k) q K) ∧ Fr (fun k => k < w.heap.size) w w' := by
  refine (dot_g w va vea vb veb sh sh ea eb L K 0 q (Lib.hid (dotE_0 m1.out m2.out rfl).symm) hq ha hea hb heb hLa hLb hL1 hKL hK6 hK).mono ?_
  rintro e w' ⟨v, rfl, ⟨s, P, i, j, Q, m, k, rfl, _, h⟩, hf⟩
  exact ⟨_, _, _, _, _, _, _, rfl, Lib.hid (h rfl).1, Lib.hid (h rfl).2, hf⟩

set_option maxRecDepth 20000 in
set_option maxHeartbeats 32000000 in
theorem tlinear_walk {S : Nat → Prop} {sh shb shc : List Int} {ea eb ec : List RatL} {sk : Bool} {xs ys : List Nat} (w : World) (va vb vc vk : Value) (L : Nat) (h1 : TL S w va sh ea L) (h2 : TL S w vb shb eb L) (h3 : TL S w vc shc ec L) (hk : RL S w vk sk xs ys L) (hL : L ≤ 1048576) :
    Calls Try.prog 4 #[va, vb, vc, vk] w fun e w' => e = .returned (.bool true) ∧ Fr (fun k => k < w.heap.size) w w' := by
  obtain ⟨vs1, ve1, rfl, hs1, he1⟩ := h1.ex
  obtain ⟨vs2, ve2, rfl, hs2, he2⟩ := h2.ex
  obtain ⟨vs3, ve3, rfl, hs3, he3⟩ := h3.ex
  obtain ⟨KA, kn, kc, KB, km, kd, rfl, hkx, hky, lkx, lky⟩ := hk.open
  have lea := h1.le
  have leb := h2.le
  have lec := h3.le
  have ta := h1.lt
  have tb := h2.lt
  have tc := h3.lt
  have oa := Rm_lt he1
  have ob := Rm_lt he2
  have oc := Rm_lt he3
  have okx := Kd.nat_all hkx
  have oky := Kd.nat_all hky
  obtain ⟨kq, hkq⟩ : ∃ q, q = qOf (sk, xs, ys) := ⟨_, rfl⟩
  have HK := Lib.hid (show RI (fun k => k < w.heap.size) w sk (.slice KA kn kc) (.slice KB km kd) kq _ _ (L + 1) from RI.low (S := S) ⟨⟨xs, hkx, rfl, by omega⟩, ⟨ys, hky, rfl, by omega⟩, hkq.symm⟩)
  have hl1 : 1 ≤ L + 1 := by omega
  have hl2 : L + 1 ≤ 104857600 := by omega
  have HLA := Lib.hid (show ∀ x ∈ ea, x.2.1.length ≤ L + 1 ∧ x.2.2.length ≤ L + 1 from fun x hx => by have := h1.lx x hx; omega)
  have HLB := Lib.hid (show ∀ x ∈ eb, x.2.1.length ≤ L + 1 ∧ x.2.2.length ≤ L + 1 from fun x hx => by have := h2.lx x hx; omega)
  have HLC := Lib.hid (show ∀ x ∈ ec, x.2.1.length ≤ L + 1 ∧ x.2.2.length ≤ L + 1 from fun x hx => by have := h3.lx x hx; omega)
  obtain ⟨q9, hq9⟩ : ∃ q, q = dotT ea ec := ⟨_, rfl⟩
  obtain ⟨q11, hq11⟩ : ∃ q, q = dotT ec ea := ⟨_, rfl⟩
  obtain ⟨q13, hq13⟩ : ∃ q, q = dotT eb ec := ⟨_, rfl⟩
  obtain ⟨q15, hq15⟩ : ∃ q, q = dotT (mixE ea eb kq ea.length) ec := ⟨_, rfl⟩
  obtain ⟨q17, hq17⟩ : ∃ q, q = dotT ea ea := ⟨_, rfl⟩
  have HK9 := Lib.hid (dot_len ea ec oa oc (by omega) (6 * (L + 1)) (by omega))
  have HK11 := Lib.hid (dot_len ec ea oc oa (by omega) (6 * (L + 1)) (by omega))
  have HK13 := Lib.hid (dot_len eb ec ob oc (by omega) (6 * (L + 1)) (by omega))
  have HK17 := Lib.hid (dot_len ea ea oa oa (by omega) (6 * (L + 1)) (by omega))
  have HK15 := Lib.hid (mixdot_len ea eb ec (sk, xs, ys) oa ob oc ⟨okx, oky⟩ ea.length (by omega) (6 * (4 * L + 3)) (by show limbsN ea + xs.length + limbsN eb + limbsN ec + (limbsD ea + (ys.length + limbsD eb) + limbsD ec) + 1 ≤ _; omega))
  rw [← hkq] at HK15
  have HLM := Lib.hid (show ∀ x ∈ mixE ea eb kq ea.length, x.2.1.length ≤ 4 * L + 3 ∧ x.2.2.length ≤ 4 * L + 3 from fun x hx => by
    obtain ⟨i, _, rfl⟩ := List.mem_map.1 hx
    rw [hkq]
    exact mix_len ea eb (sk, xs, ys) oa ob ⟨okx, oky⟩ (4 * L + 3) (by show limbsN ea + xs.length + limbsN eb + (limbsD ea + (ys.length + limbsD eb)) + 1 ≤ _; omega) i)
  obtain ⟨A, c, rfl, _, _, _⟩ := hs1.slice
  obtain ⟨A', c', rfl, _, _, hlea⟩ := he1.slice
  obtain ⟨B, d, rfl, _, _, _⟩ := hs2.slice
  obtain ⟨B', d', rfl, _, _, hleb⟩ := he2.slice
  obtain ⟨C, g, rfl, _, _, _⟩ := hs3.slice
  obtain ⟨C', g', rfl, _, _, hlec⟩ := he3.slice
  obtain ⟨ra, hra⟩ : ∃ r, mayT sh ea = r := ⟨_, rfl⟩
  obtain ⟨rb, hrb⟩ : ∃ r, mayT shb eb = r := ⟨_, rfl⟩
  obtain ⟨rc, hrc⟩ : ∃ r, mayT shc ec = r := ⟨_, rfl⟩
  have HRA := Lib.hid hra
  have HRB := Lib.hid hrb
  have HRC := Lib.hid hrc
  have HQ9 := Lib.hid hq9
  have HQ11 := Lib.hid hq11
  have HQ13 := Lib.hid hq13
  have HQ15 := Lib.hid hq15
  have HQ17 := Lib.hid hq17
  have HSA := Lib.hid (hs1.low Im_pos)
  have HEA := Lib.hid (he1.low Rm_pos)
  have HSB := Lib.hid (hs2.low Im_pos)
  have HEB := Lib.hid (he2.low Rm_pos)
  have HSC := Lib.hid (hs3.low Im_pos)
  have HEC := Lib.hid (he3.low Rm_pos)
  clear hra hrb hrc hq9 hq11 hq13 hq15 hq17 hkq h1 h2 h3 hk oa ob oc okx oky hkx hky ta tb tc hs1 he1 hs2 he2 hs3 he3 lkx lky
  have F := ((((Fr.refl (fun k => k < w.heap.size) w).alloc (.cells #[.slice A sh.length c, .slice A' ea.length c'] 26)).alloc (.cells #[.slice B shb.length d, .slice B' eb.length d'] 26)).alloc (.cells #[.slice C shc.length g, .slice C' ec.length g'] 26)).alloc (.cells #[.bool sk, .slice KA kn kc, .slice KB km kd] 36)
  have x0 := (((Box2.new w 26 (.slice A sh.length c) (.slice A' ea.length c')).alloc (.cells #[.slice B shb.length d, .slice B' eb.length d'] 26)).alloc (.cells #[.slice C shc.length g, .slice C' ec.length g'] 26)).alloc (.cells #[.bool sk, .slice KA kn kc, .slice KB km kd] 36)
  have x1 := ((Box2.new (w.alloc (.cells #[.slice A sh.length c, .slice A' ea.length c'] 26)) 26 (.slice B shb.length d) (.slice B' eb.length d')).alloc (.cells #[.slice C shc.length g, .slice C' ec.length g'] 26)).alloc (.cells #[.bool sk, .slice KA kn kc, .slice KB km kd] 36)
  have x2 := (Box2.new ((w.alloc (.cells #[.slice A sh.length c, .slice A' ea.length c'] 26)).alloc (.cells #[.slice B shb.length d, .slice B' eb.length d'] 26)) 26 (.slice C shc.length g) (.slice C' ec.length g')).alloc (.cells #[.bool sk, .slice KA kn kc, .slice KB km kd] 36)
  have x3 := Box3.new (((w.alloc (.cells #[.slice A sh.length c, .slice A' ea.length c'] 26)).alloc (.cells #[.slice B shb.length d, .slice B' eb.length d'] 26)).alloc (.cells #[.slice C shc.length g, .slice C' ec.length g'] 26)) 36 (.bool sk) (.slice KA kn kc) (.slice KB km kd)
  simp only [World.size_alloc] at x1 x2 x3
  go_enter Try.func4, Try.ntmps4
  go_wp2_with fail
  generalize hW0 : (((w.alloc (.cells #[.slice A sh.length c, .slice A' ea.length c'] 26)).alloc (.cells #[.slice B shb.length d, .slice B' eb.length d'] 26)).alloc (.cells #[.slice C shc.length g, .slice C' ec.length g'] 26)).alloc (.cells #[.bool sk, .slice KA kn kc, .slice KB km kd] 36) = W0 at F x0 x1 x2 x3 ⊢
  clear hW0
  have x0c0 := x0.c0
  have x0c1 := x0.c1
  have x1c0 := x1.c0
  have x1c1 := x1.c1
  have x2c0 := x2.c0
  have x2c1 := x2.c1
  have x3c0 := x3.c0
  have x3c1 := x3.c1
  have x3c2 := x3.c2
  with_reducible refine (rmay_h _ (.slice A sh.length c) (.slice A' ea.length c') sh ea (L + 1) ra HRA (HSA.out.fr F) (HEA.out.fr F) HLA.out hl1 hl2).mono ?_
  rintro e W1 ⟨rfl, hf⟩
  replace x0 := x0.keep hf
  replace x1 := x1.keep hf
  replace x2 := x2.keep hf
  replace x3 := x3.keep hf
  replace F := fr_then F hf
  clear hf
  clear x0c0 x0c1 x1c0 x1c1 x2c0 x2c1 x3c0 x3c1 x3c2
  have x0c0 := x0.c0
  have x0c1 := x0.c1
  have x1c0 := x1.c0
  have x1c1 := x1.c1
  have x2c0 := x2.c0
  have x2c1 := x2.c1
  have x3c0 := x3.c0
  have x3c1 := x3.c1
  have x3c2 := x3.c2
  by_cases h0 : ra = 0
  case neg =>
    have hb0 : (ra == 0) = false := beq_eq_false_iff_ne.2 h0
    go_wp2_with fail
    with_reducible refine (tknown _).mono ?_
    rintro e V ⟨rfl, hf⟩
    go_wp2_with fail
    go_ret
    exact ⟨rfl, fr_then F hf⟩
  subst h0
  go_wp2_with fail
  with_reducible refine (rmay_h _ (.slice B shb.length d) (.slice B' eb.length d') shb eb (L + 1) rb HRB (HSB.out.fr F) (HEB.out.fr F) HLB.out hl1 hl2).mono ?_
  rintro e W2 ⟨rfl, hf⟩
  replace x0 := x0.keep hf
  replace x1 := x1.keep hf
  replace x2 := x2.keep hf
  replace x3 := x3.keep hf
  replace F := fr_then F hf
  clear hf
  clear x0c0 x0c1 x1c0 x1c1 x2c0 x2c1 x3c0 x3c1 x3c2
  have x0c0 := x0.c0
  have x0c1 := x0.c1
  have x1c0 := x1.c0
  have x1c1 := x1.c1
  have x2c0 := x2.c0
  have x2c1 := x2.c1
  have x3c0 := x3.c0
  have x3c1 := x3.c1
  have x3c2 := x3.c2
  by_cases h0 : rb = 0
  case neg =>
    have hb0 : (rb == 0) = false := beq_eq_false_iff_ne.2 h0
    go_wp2_with fail
    with_reducible refine (tknown _).mono ?_
    rintro e V ⟨rfl, hf⟩
    go_wp2_with fail
    go_ret
    exact ⟨rfl, fr_then F hf⟩
  subst h0
  go_wp2_with fail
  with_reducible refine (rmay_h _ (.slice C shc.length g) (.slice C' ec.length g') shc ec (L + 1) rc HRC (HSC.out.fr F) (HEC.out.fr F) HLC.out hl1 hl2).mono ?_
  rintro e W3 ⟨rfl, hf⟩
  replace x0 := x0.keep hf
  replace x1 := x1.keep hf
  replace x2 := x2.keep hf
  replace x3 := x3.keep hf
  replace F := fr_then F hf
  clear hf
  clear x0c0 x0c1 x1c0 x1c1 x2c0 x2c1 x3c0 x3c1 x3c2
  have x0c0 := x0.c0
  have x0c1 := x0.c1
  have x1c0 := x1.c0
  have x1c1 := x1.c1
  have x2c0 := x2.c0
  have x2c1 := x2.c1
  have x3c0 := x3.c0
  have x3c1 := x3.c1
  have x3c2 := x3.c2
  by_cases h0 : rc = 0
  case neg =>
    have hb0 : (rc == 0) = false := beq_eq_false_iff_ne.2 h0
    go_wp2_with fail
    with_reducible refine (tknown _).mono ?_
    rintro e V ⟨rfl, hf⟩
    go_wp2_with fail
    go_ret
    exact ⟨rfl, fr_then F hf⟩
  subst h0
  go_wp2_with fail
  have P0 := Lib.hid (sameshape_calls _ (.slice A sh.length c) (.slice B shb.length d) sh shb (HSA.out.fr F) (HSB.out.fr F))
  with_reducible refine P0.out.mono ?_
  rintro e W4 ⟨rfl, hf'⟩
  have hf : Fr (fun k => k < W3.heap.size) W3 W4 := hf'.mono fun _ _ _ => trivial
  replace x0 := x0.keep hf
  replace x1 := x1.keep hf
  replace x2 := x2.keep hf
  replace x3 := x3.keep hf
  replace F := fr_then F hf
  clear hf hf' P0
  clear x0c0 x0c1 x1c0 x1c1 x2c0 x2c1 x3c0 x3c1 x3c2
  have x0c0 := x0.c0
  have x0c1 := x0.c1
  have x1c0 := x1.c0
  have x1c1 := x1.c1
  have x2c0 := x2.c0
  have x2c1 := x2.c1
  have x3c0 := x3.c0
  have x3c1 := x3.c1
  have x3c2 := x3.c2
  by_cases h0 : sh = shb
  case neg =>
    rw [decide_eq_false h0]
    go_wp2_with fail
    with_reducible refine (tknown _).mono ?_
    rintro e V ⟨rfl, hf⟩
    go_wp2_with fail
    go_ret
    exact ⟨rfl, fr_then F hf⟩
  rw [decide_eq_true h0]
  subst h0
  go_wp2_with fail
  have P1 := Lib.hid (sameshape_calls _ (.slice A sh.length c) (.slice C shc.length g) sh shc (HSA.out.fr F) (HSC.out.fr F))
  with_reducible refine P1.out.mono ?_
  rintro e W5 ⟨rfl, hf'⟩
  have hf : Fr (fun k => k < W4.heap.size) W4 W5 := hf'.mono fun _ _ _ => trivial
  replace x0 := x0.keep hf
  replace x1 := x1.keep hf
  replace x2 := x2.keep hf
  replace x3 := x3.keep hf
  replace F := fr_then F hf
  clear hf hf' P1
  clear x0c0 x0c1 x1c0 x1c1 x2c0 x2c1 x3c0 x3c1 x3c2
  have x0c0 := x0.c0
  have x0c1 := x0.c1
  have x1c0 := x1.c0
  have x1c1 := x1.c1
  have x2c0 := x2.c0
  have x2c1 := x2.c1
  have x3c0 := x3.c0
  have x3c1 := x3.c1
  have x3c2 := x3.c2
  by_cases h0 : sh = shc
  case neg =>
    rw [decide_eq_false h0]
    go_wp2_with fail
    with_reducible refine (tknown _).mono ?_
    rintro e V ⟨rfl, hf⟩
    go_wp2_with fail
    go_ret
    exact ⟨rfl, fr_then F hf⟩
  rw [decide_eq_true h0]
  subst h0
  go_wp2_with fail
  have HLAB := Lib.hid (show ea.length = eb.length from by
    have h1 := (mayT_ok HRA.out).2.1
    have h2 := (mayT_ok HRB.out).2.1
    omega)
  have HLAC := Lib.hid (show ea.length = ec.length from by
    have h1 := (mayT_ok HRA.out).2.1
    have h2 := (mayT_ok HRC.out).2.1
    omega)
  have HMM := Lib.hid (mixE_may (eb := eb) (k := kq) HRA.out)
  have hlm : 1 ≤ 4 * L + 3 := by omega
  have HLC2 := Lib.hid (show ∀ x ∈ ec, x.2.1.length ≤ 4 * L + 3 ∧ x.2.2.length ≤ 4 * L + 3 from fun x hx => by have := HLC.out x hx; omega)
  with_reducible refine (dot_ok _ (.slice A sh.length c) (.slice A' ea.length c') (.slice C sh.length g) (.slice C' ec.length g') sh ea ec (L + 1) (6 * (L + 1)) q9 HQ9 (HSA.out.fr F) (HEA.out.fr F) (HSC.out.fr F) (HEC.out.fr F) HRA HRC HLA HLC hl1 (Nat.le_refl _) (by omega) HK9).mono ?_
  rintro e W6 ⟨s9, P9, i9, j9, Q9, m9, k9, rfl, hs9, V9, hf⟩
  replace x0 := x0.keep hf
  replace x1 := x1.keep hf
  replace x2 := x2.keep hf
  replace x3 := x3.keep hf
  replace F := fr_then F hf
  have al := fun R => (Fr.refl R W6).alloc (.cells #[.bool s9, .slice P9 i9 j9, .slice Q9 m9 k9] 36)
  have y9 := Box3.new W6 36 (.bool s9) (.slice P9 i9 j9) (.slice Q9 m9 k9)
  replace x0 := x0.keep (al _)
  replace x1 := x1.keep (al _)
  replace x2 := x2.keep (al _)
  replace x3 := x3.keep (al _)
  replace V9 := Lib.hid (V9.out.keep (al _))
  replace F := fr_then F (al _)
  clear hf al
  clear x0c0 x0c1 x1c0 x1c1 x2c0 x2c1 x3c0 x3c1 x3c2
  have x0c0 := x0.c0
  have x0c1 := x0.c1
  have x1c0 := x1.c0
  have x1c1 := x1.c1
  have x2c0 := x2.c0
  have x2c1 := x2.c1
  have x3c0 := x3.c0
  have x3c1 := x3.c1
  have x3c2 := x3.c2
  go_wp2_with fail
  with_reducible refine (dot_ok _ (.slice C sh.length g) (.slice C' ec.length g') (.slice A sh.length c) (.slice A' ea.length c') sh ec ea (L + 1) (6 * (L + 1)) q11 HQ11 (HSC.out.fr F) (HEC.out.fr F) (HSA.out.fr F) (HEA.out.fr F) HRC HRA HLC HLA hl1 (Nat.le_refl _) (by omega) HK11).mono ?_
  rintro e W7 ⟨s11, P11, i11, j11, Q11, m11, k11, rfl, hs11, V11, hf⟩
  replace x0 := x0.keep hf
  replace x1 := x1.keep hf
  replace x2 := x2.keep hf
  replace x3 := x3.keep hf
  replace y9 := y9.keep hf
  replace V9 := Lib.hid (V9.out.keep hf)
  replace F := fr_then F hf
  have al := fun R => (Fr.refl R W7).alloc (.cells #[.bool s11, .slice P11 i11 j11, .slice Q11 m11 k11] 36)
  have y11 := Box3.new W7 36 (.bool s11) (.slice P11 i11 j11) (.slice Q11 m11 k11)
  replace x0 := x0.keep (al _)
  replace x1 := x1.keep (al _)
  replace x2 := x2.keep (al _)
  replace x3 := x3.keep (al _)
  replace y9 := y9.keep (al _)
  replace V9 := Lib.hid (V9.out.keep (al _))
  replace V11 := Lib.hid (V11.out.keep (al _))
  replace F := fr_then F (al _)
  clear hf al
  clear x0c0 x0c1 x1c0 x1c1 x2c0 x2c1 x3c0 x3c1 x3c2
  have x0c0 := x0.c0
  have x0c1 := x0.c1
  have x1c0 := x1.c0
  have x1c1 := x1.c1
  have x2c0 := x2.c0
  have x2c1 := x2.c1
  have x3c0 := x3.c0
  have x3c1 := x3.c1
  have x3c2 := x3.c2
  go_wp2_with fail
  with_reducible refine (dot_ok _ (.slice B sh.length d) (.slice B' eb.length d') (.slice C sh.length g) (.slice C' ec.length g') sh eb ec (L + 1) (6 * (L + 1)) q13 HQ13 (HSB.out.fr F) (HEB.out.fr F) (HSC.out.fr F) (HEC.out.fr F) HRB HRC HLB HLC hl1 (Nat.le_refl _) (by omega) HK13).mono ?_
  rintro e W8 ⟨s13, P13, i13, j13, Q13, m13, k13, rfl, hs13, V13, hf⟩
  replace x0 := x0.keep hf
  replace x1 := x1.keep hf
  replace x2 := x2.keep hf
  replace x3 := x3.keep hf
  replace y9 := y9.keep hf
  replace y11 := y11.keep hf
  replace V9 := Lib.hid (V9.out.keep hf)
  replace V11 := Lib.hid (V11.out.keep hf)
  replace F := fr_then F hf
  have al := fun R => (Fr.refl R W8).alloc (.cells #[.bool s13, .slice P13 i13 j13, .slice Q13 m13 k13] 36)
  have y13 := Box3.new W8 36 (.bool s13) (.slice P13 i13 j13) (.slice Q13 m13 k13)
  replace x0 := x0.keep (al _)
  replace x1 := x1.keep (al _)
  replace x2 := x2.keep (al _)
  replace x3 := x3.keep (al _)
  replace y9 := y9.keep (al _)
  replace y11 := y11.keep (al _)
  replace V9 := Lib.hid (V9.out.keep (al _))
  replace V11 := Lib.hid (V11.out.keep (al _))
  replace V13 := Lib.hid (V13.out.keep (al _))
  replace F := fr_then F (al _)
  clear hf al
  clear x0c0 x0c1 x1c0 x1c1 x2c0 x2c1 x3c0 x3c1 x3c2
  have x0c0 := x0.c0
  have x0c1 := x0.c1
  have x1c0 := x1.c0
  have x1c1 := x1.c1
  have x2c0 := x2.c0
  have x2c1 := x2.c1
  have x3c0 := x3.c0
  have x3c1 := x3.c1
  have x3c2 := x3.c2
  go_wp2_with fail
  clear x0c0 x0c1 x1c0 x1c1 x2c0 x2c1 x3c0 x3c1 x3c2
  generalize W8.alloc (.cells #[.bool s13, .slice P13 i13 j13, .slice Q13 m13 k13] 36) = U8 at x0 x1 x2 x3 y9 y11 y13 V9 V11 V13 F ⊢
  have al := fun R => (Fr.refl R U8).drew
  replace x0 := x0.keep (al _)
  replace x1 := x1.keep (al _)
  replace x2 := x2.keep (al _)
  replace x3 := x3.keep (al _)
  replace y9 := y9.keep (al _)
  replace y11 := y11.keep (al _)
  replace y13 := y13.keep (al _)
  replace V9 := Lib.hid (V9.out.keep (al _))
  replace V11 := Lib.hid (V11.out.keep (al _))
  replace V13 := Lib.hid (V13.out.keep (al _))
  replace F := fr_then F (al _)
  clear al
  have KS : ∀ u, Fr (fun k => k < U8.drew.heap.size) U8.drew u → u.cell? ⟨w.heap.size, 0, none⟩ = some (.slice A sh.length c) ∧ u.cell? ⟨w.heap.size, 1, none⟩ = some (.slice A' ea.length c') ∧ u.cell? ⟨w.heap.size + 1, 0, none⟩ = some (.slice B sh.length d) ∧ u.cell? ⟨w.heap.size + 1, 1, none⟩ = some (.slice B' eb.length d') ∧ u.cell? ⟨w.heap.size + 1 + 1, 0, none⟩ = some (.slice C sh.length g) ∧ u.cell? ⟨w.heap.size + 1 + 1, 1, none⟩ = some (.slice C' ec.length g') ∧ u.cell? ⟨w.heap.size + 1 + 1 + 1, 0, none⟩ = some (.bool sk) ∧ u.cell? ⟨w.heap.size + 1 + 1 + 1, 1, none⟩ = some (.slice KA kn kc) ∧ u.cell? ⟨w.heap.size + 1 + 1 + 1, 2, none⟩ = some (.slice KB km kd) := fun u h => ⟨(x0.keep h).c0, (x0.keep h).c1, (x1.keep h).c0, (x1.keep h).c1, (x2.keep h).c0, (x2.keep h).c1, (x3.keep h).c0, (x3.keep h).c1, (x3.keep h).c2⟩
  have G0 := Fr.refl (fun k => k < U8.drew.heap.size) U8.drew
  go_wp2_with fail
  refine wpTill.begin (fun u => u.cell? ⟨w.heap.size, 0, none⟩ = some (.slice A sh.length c) ∧ u.cell? ⟨w.heap.size, 1, none⟩ = some (.slice A' ea.length c') ∧ u.cell? ⟨w.heap.size + 1, 0, none⟩ = some (.slice B sh.length d) ∧ u.cell? ⟨w.heap.size + 1, 1, none⟩ = some (.slice B' eb.length d') ∧ u.cell? ⟨w.heap.size + 1 + 1, 0, none⟩ = some (.slice C sh.length g) ∧ u.cell? ⟨w.heap.size + 1 + 1, 1, none⟩ = some (.slice C' ec.length g') ∧ u.cell? ⟨w.heap.size + 1 + 1 + 1, 0, none⟩ = some (.bool sk) ∧ u.cell? ⟨w.heap.size + 1 + 1 + 1, 1, none⟩ = some (.slice KA kn kc) ∧ u.cell? ⟨w.heap.size + 1 + 1 + 1, 2, none⟩ = some (.slice KB km kd)) 11 (by kernel_rfl) ?_
  change wpTill _ _ _ _ _ _ 12 _ _ _
  refine wpTill.take 0 (.agg #[.slice A sh.length c, .slice A' ea.length c']) rfl (by kernel_rfl) (by kernel_rfl) (fun _ _ _ h => h) (KS _ G0) (by rfl) (fun u hu => by go_simp) ?_
  simp only [Act.put, List.getElem_toArray, List.getElem_cons_zero, List.getElem_cons_succ, List.setIfInBounds_toArray, List.set_cons_zero, List.set_cons_succ]
  refine wpTill.take 1 (.agg #[.slice B sh.length d, .slice B' eb.length d']) rfl (by kernel_rfl) (by kernel_rfl) (fun _ _ _ h => h) (KS _ G0) (by rfl) (fun u hu => by go_simp) ?_
  simp only [Act.put, List.getElem_toArray, List.getElem_cons_zero, List.getElem_cons_succ, List.setIfInBounds_toArray, List.set_cons_zero, List.set_cons_succ]
  refine wpTill.take 2 (.agg #[.bool sk, .slice KA kn kc, .slice KB km kd]) rfl (by kernel_rfl) (by kernel_rfl) (fun _ _ _ h => h) (KS _ G0) (by rfl) (fun u hu => by go_simp) ?_
  simp only [Act.put, List.getElem_toArray, List.getElem_cons_zero, List.getElem_cons_succ, List.setIfInBounds_toArray, List.set_cons_zero, List.set_cons_succ]
  refine wpTill.take 4 (.agg #[.slice C sh.length g, .slice C' ec.length g']) rfl (by kernel_rfl) (by kernel_rfl) (fun _ _ _ h => h) (KS _ G0) (by rfl) (fun u hu => by go_simp) ?_
  simp only [Act.put, List.getElem_toArray, List.getElem_cons_zero, List.getElem_cons_succ, List.setIfInBounds_toArray, List.set_cons_zero, List.set_cons_succ]
  refine wpTill.via (m := 2) #[true, true, true, true, true, true, true, true, true, true, false, false] (fun a u => ∃ (R1 R2 : Value) (b15 : Nat) (s15 : Bool) (P15 : Option Addr) (i15 j15 : Nat) (Q15 : Option Addr) (m15 k15 : Nat), a = { tmps := #[.agg #[.slice A sh.length c, .slice A' ea.length c'], .agg #[.slice B sh.length d, .slice B' eb.length d'], .agg #[.slice C sh.length g, .slice C' ec.length g'], .agg #[.bool sk, .slice KA kn kc, .slice KB km kd], .pointer (some ⟨w.heap.size, 0, none⟩), .pointer (some ⟨w.heap.size + 1, 0, none⟩), .pointer (some ⟨w.heap.size + 1 + 1, 0, none⟩), .pointer (some ⟨w.heap.size + 1 + 1 + 1, 0, none⟩), .bool false, .pointer (some ⟨W6.heap.size, 0, none⟩), .int .i64 0, .pointer (some ⟨W7.heap.size, 0, none⟩), .int .i64 0, .pointer (some ⟨W8.heap.size, 0, none⟩), .int .i64 0, .pointer (some ⟨b15, 0, none⟩), undef, undef, undef, undef, undef, .agg #[.slice A sh.length c, .slice A' ea.length c'], .int .i64 0, .bool false, .bool false, .agg #[.slice B sh.length d, .slice B' eb.length d'], .int .i64 0, .bool false, .bool false, .bool false, .agg #[.slice C sh.length g, .slice C' ec.length g'], .int .i64 0, .bool false, .bool false, .bool false, .pointer (some ⟨w.heap.size, 0, none⟩), .slice A sh.length c, .pointer (some ⟨w.heap.size + 1, 0, none⟩), .slice B sh.length d, .bool true, .bool false, .bool false, .bool false, .pointer (some ⟨w.heap.size, 0, none⟩), .slice A sh.length c, .pointer (some ⟨w.heap.size + 1 + 1, 0, none⟩), .slice C sh.length g, .bool true, .bool false, .bool false, undef, .tuple #[.agg #[.bool s9, .slice P9 i9 j9, .slice Q9 m9 k9], .int .i64 0], .agg #[.slice A sh.length c, .slice A' ea.length c'], .agg #[.slice C sh.length g, .slice C' ec.length g'], .tuple #[.agg #[.bool s9, .slice P9 i9 j9, .slice Q9 m9 k9], .int .i64 0], .agg #[.bool s9, .slice P9 i9 j9, .slice Q9 m9 k9], .int .i64 0, .tuple #[.agg #[.bool s11, .slice P11 i11 j11, .slice Q11 m11 k11], .int .i64 0], .agg #[.slice C sh.length g, .slice C' ec.length g'], .agg #[.slice A sh.length c, .slice A' ea.length c'], .tuple #[.agg #[.bool s11, .slice P11 i11 j11, .slice Q11 m11 k11], .int .i64 0], .agg #[.bool s11, .slice P11 i11 j11, .slice Q11 m11 k11], .int .i64 0, .tuple #[.agg #[.bool s13, .slice P13 i13 j13, .slice Q13 m13 k13], .int .i64 0], .agg #[.slice B sh.length d, .slice B' eb.length d'], .agg #[.slice C sh.length g, .slice C' ec.length g'], .tuple #[.agg #[.bool s13, .slice P13 i13 j13, .slice Q13 m13 k13], .int .i64 0], .agg #[.bool s13, .slice P13 i13 j13, .slice Q13 m13 k13], .int .i64 0, .tuple #[.agg #[.bool s15, .slice P15 i15 j15, .slice Q15 m15 k15], .int .i64 0], .agg #[.slice A sh.length c, .slice A' ea.length c'], .agg #[.slice B sh.length d, .slice B' eb.length d'], .agg #[.bool sk, .slice KA kn kc, .slice KB km kd], R1, .agg #[.slice C sh.length g, .slice C' ec.length g'], R2, .agg #[.bool s15, .slice P15 i15 j15, .slice Q15 m15 k15], .int .i64 0, undef, undef, undef, undef, undef, undef, undef, undef, undef, undef, undef, undef, undef, undef, undef, undef, undef, undef, undef, undef, undef, undef, undef, undef, undef, undef, undef, undef, undef, undef, undef, undef, undef, undef, undef, undef, undef, undef, undef, undef, undef, undef, undef, undef, undef, undef, undef, undef, undef, undef, undef, undef, undef, undef, undef, undef, undef, undef, undef, undef, undef, undef, undef, undef, undef, undef, undef, undef, undef, undef, undef], defers := [] } ∧ Box3 u b15 36 (.bool false) (.slice none 0 0) (.slice none 0 0) ∧ U8.drew.heap.size ≤ b15 ∧ Hid (s15 = sg q15 ∧ SV u (.slice P15 i15 j15) (.slice Q15 m15 k15) q15 (6 * (4 * L + 3))) ∧ Fr (fun k => k < U8.drew.heap.size) U8.drew u) ?_ (fun END => ?_)
  · rintro a u ⟨R1, R2, b15, s15, P15, i15, j15, Q15, m15, k15, rfl, y15, lb, pq, G⟩
    have S6 := KS _ (fr3 G lb (x := .bool s15) (y := .slice P15 i15 j15) (z := .slice Q15 m15 k15))
    have o0 := y15.c0; have o1 := y15.c1; have o2 := y15.c2; have o3 := y15.free 0; have o4 := y15.free 1; have o5 := y15.free 2
    have fin := leaf1 (s := s15) (v1 := .slice P15 i15 j15) (v2 := .slice Q15 m15 k15) y15 G lb
    have hs15 := Lib.hid pq.out.1
    have V15 := Lib.hid (pq.out.2.over y15 (.bool s15) (.slice P15 i15 j15) (.slice Q15 m15 k15))
    clear pq
    refine wpTill.next 10 rfl (by kernel_rfl) (by rfl) (fun K hK => ?_)
    go_simp
    refine hK _ _ (fun _ => S6) ?_
    clear hK K
    try simp only [Act.put, List.getElem_toArray, List.getElem_cons_zero, List.getElem_cons_succ, List.setIfInBounds_toArray, List.set_cons_zero, List.set_cons_succ]
    refine wpTill.next 11 rfl (by kernel_rfl) (by rfl) (fun K hK => ?_)
    go_simp
    refine hK _ _ (no_wait (by kernel_rfl)) ?_
    clear hK K
    try simp only [Act.put, List.getElem_toArray, List.getElem_cons_zero, List.getElem_cons_succ, List.setIfInBounds_toArray, List.set_cons_zero, List.set_cons_succ]
    refine wpTill.done (by kernel_rfl) ?_
    clear o0 o1 o2 o3 o4 o5 S6 y15 G
    generalize ((u.setCell ⟨b15, 0, none⟩ _).setCell ⟨b15, 1, none⟩ _).setCell ⟨b15, 2, none⟩ _ = U at fin V15 ⊢
    obtain ⟨y15, G⟩ := fin
    clear lb KS G0
    replace x0 := x0.keep G
    replace x1 := x1.keep G
    replace x2 := x2.keep G
    replace x3 := x3.keep G
    replace y9 := y9.keep G
    replace y11 := y11.keep G
    replace y13 := y13.keep G
    replace V9 := Lib.hid (V9.out.keep G)
    replace V11 := Lib.hid (V11.out.keep G)
    replace V13 := Lib.hid (V13.out.keep G)
    replace F := fr_then F G
    clear G
    have x0c0 := x0.c0
    have x0c1 := x0.c1
    have x1c0 := x1.c0
    have x1c1 := x1.c1
    have x2c0 := x2.c0
    have x2c1 := x2.c1
    have x3c0 := x3.c0
    have x3c1 := x3.c1
    have x3c2 := x3.c2
    go_wp2_with fail
    with_reducible refine (dot_ok _ (.slice A sh.length c) (.slice A' ea.length c') (.slice A sh.length c) (.slice A' ea.length c') sh ea ea (L + 1) (6 * (L + 1)) q17 HQ17 (HSA.out.fr F) (HEA.out.fr F) (HSA.out.fr F) (HEA.out.fr F) HRA HRA HLA HLA hl1 (Nat.le_refl _) (by omega) HK17).mono ?_
    rintro e W17 ⟨s17, P17, i17, j17, Q17, m17, k17, rfl, hs17, V17, hf⟩
    replace x0 := x0.keep hf
    replace x1 := x1.keep hf
    replace x2 := x2.keep hf
    replace x3 := x3.keep hf
    replace y9 := y9.keep hf
    replace y11 := y11.keep hf
    replace y13 := y13.keep hf
    replace y15 := y15.keep hf
    replace V9 := Lib.hid (V9.out.keep hf)
    replace V11 := Lib.hid (V11.out.keep hf)
    replace V13 := Lib.hid (V13.out.keep hf)
    replace V15 := Lib.hid (V15.out.keep hf)
    replace F := fr_then F hf
    have al := fun R => (Fr.refl R W17).alloc (.cells #[.bool s17, .slice P17 i17 j17, .slice Q17 m17 k17] 36)
    have y17 := Box3.new W17 36 (.bool s17) (.slice P17 i17 j17) (.slice Q17 m17 k17)
    replace x0 := x0.keep (al _)
    replace x1 := x1.keep (al _)
    replace x2 := x2.keep (al _)
    replace x3 := x3.keep (al _)
    replace y9 := y9.keep (al _)
    replace y11 := y11.keep (al _)
    replace y13 := y13.keep (al _)
    replace y15 := y15.keep (al _)
    replace V9 := Lib.hid (V9.out.keep (al _))
    replace V11 := Lib.hid (V11.out.keep (al _))
    replace V13 := Lib.hid (V13.out.keep (al _))
    replace V15 := Lib.hid (V15.out.keep (al _))
    replace V17 := Lib.hid (V17.out.keep (al _))
    replace F := fr_then F (al _)
    clear hf al
    clear x0c0 x0c1 x1c0 x1c1 x2c0 x2c1 x3c0 x3c1 x3c2
    have x0c0 := x0.c0
    have x0c1 := x0.c1
    have x1c0 := x1.c0
    have x1c1 := x1.c1
    have x2c0 := x2.c0
    have x2c1 := x2.c1
    have x3c0 := x3.c0
    have x3c1 := x3.c1
    have x3c2 := x3.c2
    go_wp2_with fail
    clear x0c0 x0c1 x1c0 x1c1 x2c0 x2c1 x3c0 x3c1 x3c2
    generalize W17.alloc (.cells #[.bool s17, .slice P17 i17 j17, .slice Q17 m17 k17] 36) = U17 at x0 x1 x2 x3 y9 y11 y13 y15 y17 V9 V11 V13 V15 V17 F ⊢
    have HZ := Lib.hid (dot_sign ea)
    have HN := Lib.hid (nought_dot (mayT_ok HRA.out).2.2)
    rw [← HQ17.out] at HZ HN
    have HC := Lib.hid (show q11 = q9 by rw [HQ11.out, HQ9.out, dot_comm HLAC.out])
    have HM15 := Lib.hid (show q15 = q9 + kq * q13 by rw [HQ15.out, HQ9.out, HQ13.out, dot_mix kq HLAB.out])
    have HB15 := Lib.hid (show (dg LB (q9 + kq * q13).num.natAbs).length ≤ 6 * (4 * L + 3) ∧ (dg LB (q9 + kq * q13).den).length ≤ 6 * (4 * L + 3) by rw [← HM15.out, HQ15.out]; exact dotQ_le HK15.out)
    go_wp2_with fail
    go_loopw [19, 20] (fun nb i wr => ∃ (j : Nat) (b : Bool), i = .int .i64 j ∧ j ≤ ea.length ∧ nb = .bool b ∧ Hid (b = nought ea j) ∧ wr = U17) (fun _ i _ => ea.length - (intOf i).toNat)
    case atStart => exact ⟨0, true, rfl, by omega, rfl, Lib.hid rfl, rfl⟩
    case round =>
      obtain ⟨j, b, rfl, hj, rfl, hb, rfl⟩ := hrel
      have x0c1 := x0.c1
      by_cases hlt : j < ea.length
      · obtain ⟨ad, P, n, d1, Q, m, o, rfl, hS, g0, g1, g2, r1, r2⟩ := Rm_get (HEA.out.fr F) hlt
        obtain ⟨P', d1', e, _⟩ := r1.slice
        cases e
        have hst := nought_step (List.take_succ_eq_append_getElem hlt)
        generalize ea[j] = y at g0 g1 r1 r2 hst
        generalize y.2.1.length = n at g1 hst
        have HST := Lib.hid hst
        clear hst g0 g2 r1 r2
        cases b
        · go_wp2_with fail
          go_roundw
          case rel => exact ⟨j + 1, _, by go_num, by omega, rfl, Lib.hid (by rw [HST.out, ← hb.out, Bool.false_and]), by first | rfl | trivial⟩
          case measure => first | (simp [intOf]; done) | (simp [intOf]; omega)
        · go_wp2_with fail
          go_roundw
          case rel => exact ⟨j + 1, _, by go_num, by omega, rfl, Lib.hid (by rw [HST.out, ← hb.out, Bool.true_and]), by first | rfl | trivial⟩
          case measure => first | (simp [intOf]; done) | (simp [intOf]; omega)
      · obtain rfl : j = ea.length := by omega
        obtain ⟨z, hz⟩ : ∃ z, q17.num.sign = z := ⟨_, rfl⟩
        have HSG := Lib.hid hz
        have hzz : z = 0 ∨ z = 1 := hz ▸ HZ.out
        have hbz : b = (z == 0) := by rw [hb.out, HN.out, hz]
        subst hbz
        have D := fun R => (Fr.refl R wr).drew
        have x3 := x3.keep (D _)
        have y9 := y9.keep (D _)
        have y11 := y11.keep (D _)
        have y13 := y13.keep (D _)
        have y15 := y15.keep (D _)
        have y17 := y17.keep (D _)
        have FD := F.drew
        have R9 := Lib.hid (show RI (fun _ => True) wr.drew s9 (.slice P9 i9 j9) (.slice Q9 m9 k9) q9 _ _ (6 * (4 * L + 3)) from by rw [hs9.out]; exact ((V9.out.keep (D _)).ri).wide (by omega))
        have R11 := Lib.hid (show RI (fun _ => True) wr.drew s11 (.slice P11 i11 j11) (.slice Q11 m11 k11) q9 _ _ (6 * (4 * L + 3)) from by rw [hs11.out, ← HC.out]; exact ((V11.out.keep (D _)).ri).wide (by omega))
        have R13 := Lib.hid (show RI (fun _ => True) wr.drew s13 (.slice P13 i13 j13) (.slice Q13 m13 k13) q13 _ _ (6 * (L + 1)) from by rw [hs13.out]; exact (V13.out.keep (D _)).ri)
        have R15 := Lib.hid (show RI (fun _ => True) wr.drew s15 (.slice P15 i15 j15) (.slice Q15 m15 k15) (q9 + kq * q13) _ _ (6 * (4 * L + 3)) from by rw [hs15.out, ← HM15.out]; exact (V15.out.keep (D _)).ri)
        have R17 := Lib.hid (show RI (fun _ => True) wr.drew s17 (.slice P17 i17 j17) (.slice Q17 m17 k17) q17 _ _ (6 * (L + 1)) from by rw [hs17.out]; exact (V17.out.keep (D _)).ri)
        have RK := Lib.hid ((HK.out.fr FD).wide (show L + 1 ≤ 6 * (L + 1) by omega))
        have KS : ∀ u, Fr (fun k => k < wr.drew.heap.size) wr.drew u → u.cell? ⟨W6.heap.size, 0, none⟩ = some (.bool s9) ∧ u.cell? ⟨W6.heap.size, 1, none⟩ = some (.slice P9 i9 j9) ∧ u.cell? ⟨W6.heap.size, 2, none⟩ = some (.slice Q9 m9 k9) ∧ u.cell? ⟨W7.heap.size, 0, none⟩ = some (.bool s11) ∧ u.cell? ⟨W7.heap.size, 1, none⟩ = some (.slice P11 i11 j11) ∧ u.cell? ⟨W7.heap.size, 2, none⟩ = some (.slice Q11 m11 k11) ∧ u.cell? ⟨W8.heap.size, 0, none⟩ = some (.bool s13) ∧ u.cell? ⟨W8.heap.size, 1, none⟩ = some (.slice P13 i13 j13) ∧ u.cell? ⟨W8.heap.size, 2, none⟩ = some (.slice Q13 m13 k13) ∧ u.cell? ⟨b15, 0, none⟩ = some (.bool s15) ∧ u.cell? ⟨b15, 1, none⟩ = some (.slice P15 i15 j15) ∧ u.cell? ⟨b15, 2, none⟩ = some (.slice Q15 m15 k15) ∧ u.cell? ⟨W17.heap.size, 0, none⟩ = some (.bool s17) ∧ u.cell? ⟨W17.heap.size, 1, none⟩ = some (.slice P17 i17 j17) ∧ u.cell? ⟨W17.heap.size, 2, none⟩ = some (.slice Q17 m17 k17) ∧ u.cell? ⟨w.heap.size + 1 + 1 + 1, 0, none⟩ = some (.bool sk) ∧ u.cell? ⟨w.heap.size + 1 + 1 + 1, 1, none⟩ = some (.slice KA kn kc) ∧ u.cell? ⟨w.heap.size + 1 + 1 + 1, 2, none⟩ = some (.slice KB km kd) := fun u h => ⟨(y9.keep h).c0, (y9.keep h).c1, (y9.keep h).c2, (y11.keep h).c0, (y11.keep h).c1, (y11.keep h).c2, (y13.keep h).c0, (y13.keep h).c1, (y13.keep h).c2, (y15.keep h).c0, (y15.keep h).c1, (y15.keep h).c2, (y17.keep h).c0, (y17.keep h).c1, (y17.keep h).c2, (x3.keep h).c0, (x3.keep h).c1, (x3.keep h).c2⟩
        have K0 := Fr.refl (fun k => k < wr.drew.heap.size) wr.drew
        clear D x0 x1 x2 V9 V11 V13 V15 V17 HK9 HK11 HK13 HK17 HK15 hb hz HZ HN
        have fin : ∀ nb : Bool, nb = (z == 0) → ((z == 0) == nb) = true := fun nb h => by rw [h]; exact beq_self_eq_true _
        rcases hzz with rfl | rfl
        all_goals
          go_wp2_with fail
          go_region_held3 (fun u => u.cell? ⟨W6.heap.size, 0, none⟩ = some (.bool s9) ∧ u.cell? ⟨W6.heap.size, 1, none⟩ = some (.slice P9 i9 j9) ∧ u.cell? ⟨W6.heap.size, 2, none⟩ = some (.slice Q9 m9 k9) ∧ u.cell? ⟨W7.heap.size, 0, none⟩ = some (.bool s11) ∧ u.cell? ⟨W7.heap.size, 1, none⟩ = some (.slice P11 i11 j11) ∧ u.cell? ⟨W7.heap.size, 2, none⟩ = some (.slice Q11 m11 k11) ∧ u.cell? ⟨W8.heap.size, 0, none⟩ = some (.bool s13) ∧ u.cell? ⟨W8.heap.size, 1, none⟩ = some (.slice P13 i13 j13) ∧ u.cell? ⟨W8.heap.size, 2, none⟩ = some (.slice Q13 m13 k13) ∧ u.cell? ⟨b15, 0, none⟩ = some (.bool s15) ∧ u.cell? ⟨b15, 1, none⟩ = some (.slice P15 i15 j15) ∧ u.cell? ⟨b15, 2, none⟩ = some (.slice Q15 m15 k15) ∧ u.cell? ⟨W17.heap.size, 0, none⟩ = some (.bool s17) ∧ u.cell? ⟨W17.heap.size, 1, none⟩ = some (.slice P17 i17 j17) ∧ u.cell? ⟨W17.heap.size, 2, none⟩ = some (.slice Q17 m17 k17) ∧ u.cell? ⟨w.heap.size + 1 + 1 + 1, 0, none⟩ = some (.bool sk) ∧ u.cell? ⟨w.heap.size + 1 + 1 + 1, 1, none⟩ = some (.slice KA kn kc) ∧ u.cell? ⟨w.heap.size + 1 + 1 + 1, 2, none⟩ = some (.slice KB km kd)) (with_reducible exact KS _ K0) (first
            | ((with_reducible refine (rsame_t _ s9 s11 (.slice P9 i9 j9) (.slice Q9 m9 k9) (.slice P11 i11 j11) (.slice Q11 m11 k11) q9 _ _ _ _ (6 * (4 * L + 3)) (Lib.hid (R9.out.keep K0)) (Lib.hid (R11.out.keep K0)) (by omega) (by omega)).mono ?_); rintro e wq ⟨rfl, hf⟩; have K0 := fr_then K0 hf)
            | ((with_reducible refine (mul_h _ sk s13 (.slice KA kn kc) (.slice KB km kd) (.slice P13 i13 j13) (.slice Q13 m13 k13) kq q13 _ _ _ _ (6 * (L + 1)) (RK.out.keep K0) (R13.out.keep K0) (by omega) (by omega)).mono ?_); rintro e wq ⟨s20, v20, v21, rfl, hs20, h20, hf⟩; obtain ⟨⟨P20, i20, j20, rfl⟩, ⟨Q20, m20, k20, rfl⟩⟩ := h20.out.form; have K0 := fr_then K0 hf; have R20 := Lib.hid (show RI _ wq s20 (.slice P20 i20 j20) (.slice Q20 m20 k20) (kq * q13) _ _ (6 * (6 * (L + 1))) from hs20.out ▸ h20.out.toRI (Nat.le_refl _)))
            | ((with_reducible refine (add_h _ s9 s20 (.slice P9 i9 j9) (.slice Q9 m9 k9) (.slice P20 i20 j20) (.slice Q20 m20 k20) q9 (kq * q13) _ _ _ _ (6 * (6 * (L + 1))) ((R9.out.keep K0).wide (by omega)) R20.out (by omega) (by omega)).mono ?_); rintro e wq ⟨s22, v22, v23, rfl, hs22, h22, hf⟩; obtain ⟨⟨P22, i22, j22, rfl⟩, ⟨Q22, m22, k22, rfl⟩⟩ := h22.out.form; have K0 := fr_then K0 hf; have R22 := Lib.hid (show RI _ wq s22 (.slice P22 i22 j22) (.slice Q22 m22 k22) (q9 + kq * q13) _ _ (6 * (4 * L + 3)) from hs22.out ▸ (h22.out.sizes HB15.out.1 HB15.out.2).toRI (Nat.le_refl _)))
            | ((with_reducible refine (rsame_t _ s15 s22 (.slice P15 i15 j15) (.slice Q15 m15 k15) (.slice P22 i22 j22) (.slice Q22 m22 k22) (q9 + kq * q13) _ _ _ _ (6 * (4 * L + 3)) (Lib.hid (R15.out.keep K0)) R22 (by omega) (by omega)).mono ?_); rintro e wq ⟨rfl, hf⟩; have K0 := fr_then K0 hf)
            | ((with_reducible refine (rsign_z _ s17 (.slice P17 i17 j17) (.slice Q17 m17 k17) q17 _ _ (6 * (L + 1)) _ HSG (R17.out.keep K0) (by omega) (by omega)).mono ?_); rintro e wq ⟨rfl, hf⟩; have K0 := fr_then K0 hf)
            | ((with_reducible refine (tknown _).mono ?_); rintro e wq ⟨rfl, hf⟩; have K0 := fr_then K0 hf))
          go_wp2_with fail
          go_ret
          exact ⟨rfl, fr_then FD K0⟩
  refine wpTill.solo (n := 5) [3, 5] 9 (One (fun t5 r1 r2 _ => { tmps := #[.agg #[.slice A sh.length c, .slice A' ea.length c'], .agg #[.slice B sh.length d, .slice B' eb.length d'], .agg #[.slice C sh.length g, .slice C' ec.length g'], .agg #[.bool sk, .slice KA kn kc, .slice KB km kd], .pointer (some ⟨w.heap.size, 0, none⟩), .pointer (some ⟨w.heap.size + 1, 0, none⟩), .pointer (some ⟨w.heap.size + 1 + 1, 0, none⟩), .pointer (some ⟨w.heap.size + 1 + 1 + 1, 0, none⟩), .bool false, .pointer (some ⟨W6.heap.size, 0, none⟩), .int .i64 0, .pointer (some ⟨W7.heap.size, 0, none⟩), .int .i64 0, .pointer (some ⟨W8.heap.size, 0, none⟩), .int .i64 0, t5, undef, undef, undef, undef, undef, .agg #[.slice A sh.length c, .slice A' ea.length c'], .int .i64 0, .bool false, .bool false, .agg #[.slice B sh.length d, .slice B' eb.length d'], .int .i64 0, .bool false, .bool false, .bool false, .agg #[.slice C sh.length g, .slice C' ec.length g'], .int .i64 0, .bool false, .bool false, .bool false, .pointer (some ⟨w.heap.size, 0, none⟩), .slice A sh.length c, .pointer (some ⟨w.heap.size + 1, 0, none⟩), .slice B sh.length d, .bool true, .bool false, .bool false, .bool false, .pointer (some ⟨w.heap.size, 0, none⟩), .slice A sh.length c, .pointer (some ⟨w.heap.size + 1 + 1, 0, none⟩), .slice C sh.length g, .bool true, .bool false, .bool false, undef, .tuple #[.agg #[.bool s9, .slice P9 i9 j9, .slice Q9 m9 k9], .int .i64 0], .agg #[.slice A sh.length c, .slice A' ea.length c'], .agg #[.slice C sh.length g, .slice C' ec.length g'], .tuple #[.agg #[.bool s9, .slice P9 i9 j9, .slice Q9 m9 k9], .int .i64 0], .agg #[.bool s9, .slice P9 i9 j9, .slice Q9 m9 k9], .int .i64 0, .tuple #[.agg #[.bool s11, .slice P11 i11 j11, .slice Q11 m11 k11], .int .i64 0], .agg #[.slice C sh.length g, .slice C' ec.length g'], .agg #[.slice A sh.length c, .slice A' ea.length c'], .tuple #[.agg #[.bool s11, .slice P11 i11 j11, .slice Q11 m11 k11], .int .i64 0], .agg #[.bool s11, .slice P11 i11 j11, .slice Q11 m11 k11], .int .i64 0, .tuple #[.agg #[.bool s13, .slice P13 i13 j13, .slice Q13 m13 k13], .int .i64 0], .agg #[.slice B sh.length d, .slice B' eb.length d'], .agg #[.slice C sh.length g, .slice C' ec.length g'], .tuple #[.agg #[.bool s13, .slice P13 i13 j13, .slice Q13 m13 k13], .int .i64 0], .agg #[.bool s13, .slice P13 i13 j13, .slice Q13 m13 k13], .int .i64 0, undef, .agg #[.slice A sh.length c, .slice A' ea.length c'], .agg #[.slice B sh.length d, .slice B' eb.length d'], .agg #[.bool sk, .slice KA kn kc, .slice KB km kd], r1, .agg #[.slice C sh.length g, .slice C' ec.length g'], r2, undef, undef, undef, undef, undef, undef, undef, undef, undef, undef, undef, undef, undef, undef, undef, undef, undef, undef, undef, undef, undef, undef, undef, undef, undef, undef, undef, undef, undef, undef, undef, undef, undef, undef, undef, undef, undef, undef, undef, undef, undef, undef, undef, undef, undef, undef, undef, undef, undef, undef, undef, undef, undef, undef, undef, undef, undef, undef, undef, undef, undef, undef, undef, undef, undef, undef, undef, undef, undef, undef, undef, undef, undef], defers := [] }) U8.drew 36 (TOwn sh (mixE ea eb kq ea.length)) (DotG 0 q15 (6 * (4 * L + 3))) (fun _ _ => True)) (by kernel_rfl) ?_ ?_ ?_ ?_ ?_ ?_
  · rintro c p a u ⟨t5, r1, r2, r3, rfl, h⟩
    exact KS _ h.fr
  · intro c i hi p
    rcases c with _ | _ | c
    · obtain rfl := Option.some.inj (show some 3 = some i from hi)
      refine ⟨_, rfl, rfl, ?_⟩
      rintro a u K ⟨t5, r1, r2, r3, rfl, h⟩ hk
      have FU := fr_then F h.fr
      go_simp
      with_reducible refine (mix_t _ (.slice A sh.length c) (.slice A' ea.length c') (.slice B sh.length d) (.slice B' eb.length d') (.slice KA kn kc) (.slice KB km kd) sh sh ea eb sk kq _ _ (L + 1) (HSA.out.fr FU) (HEA.out.fr FU) (HSB.out.fr FU) (HEB.out.fr FU) (Lib.hid (HK.out.fr FU)) HLAB HLA HLB hl1 (by omega) (by omega)).mono ?_
      rintro e u' ⟨v2, rfl, ho, hf⟩
      exact hk _ _ ⟨_, _, _, _, rfl, h.s1 hf (TOwn.of (HSA.out.fr (fr_then FU hf)) ho.sl)⟩
    · obtain rfl := Option.some.inj (show some 5 = some i from hi)
      refine ⟨_, rfl, rfl, ?_⟩
      rintro a u K ⟨t5, r1, r2, r3, rfl, h⟩ hk
      obtain ⟨Aa, na, ca, Ab, nb, cb, rfl, o1, o2⟩ := h.g1 (by decide)
      have FU := fr_then F h.fr
      go_simp
      with_reducible refine (dot_g _ (.slice Aa na ca) (.slice Ab nb cb) (.slice C sh.length g) (.slice C' ec.length g') sh sh (mixE ea eb kq ea.length) ec (4 * L + 3) (6 * (4 * L + 3)) 0 q15 (Lib.hid (dotE_0 HMM.out HRC.out rfl).symm) HQ15 o1 o2 (HSC.out.fr FU) (HEC.out.fr FU) HLM HLC2 hlm (Nat.le_refl _) (by omega) HK15).mono ?_
      rintro e u' ⟨v, rfl, hv, hf⟩
      exact hk _ _ ⟨_, _, _, _, rfl, h.s2 (fun _ _ _ => TOwn.keep) hf hv⟩
    · exact absurd hi (by simp)
  · intro c
    refine ⟨_, rfl, rfl, ?_⟩
    rintro a u K ⟨t5, r1, r2, r3, rfl, h⟩ hk
    go_simp
    exact hk _ _ ⟨_, _, _, _, rfl, h.new (fun _ _ _ => TOwn.keep) (fun _ _ _ => DotG.keep) (fun _ _ _ _ h => h)⟩
  · rintro a u ⟨t5, r1, r2, r3, rfl, h⟩
    obtain ⟨b, rfl, xb, lb⟩ := h.x rfl
    obtain ⟨s15, P15, i15, j15, Q15, m15, k15, rfl, _, pq⟩ := h.g2 (Nat.le_refl 2)
    replace pq := pq rfl
    have S5 := KS _ h.fr
    refine wpTill.take 6 (.tuple #[.agg #[.bool s15, .slice P15 i15 j15, .slice Q15 m15 k15], .int .i64 0]) rfl (by kernel_rfl) (by kernel_rfl) (fun _ _ _ h => h) (S5) (by rfl) (fun u hu => by go_simp) ?_
    simp only [Act.put, List.getElem_toArray, List.getElem_cons_zero, List.getElem_cons_succ, List.setIfInBounds_toArray, List.set_cons_zero, List.set_cons_succ]
    refine wpTill.take 7 (.agg #[.bool s15, .slice P15 i15 j15, .slice Q15 m15 k15]) rfl (by kernel_rfl) (by kernel_rfl) (fun _ _ _ h => h) (S5) (by rfl) (fun u hu => by go_simp) ?_
    simp only [Act.put, List.getElem_toArray, List.getElem_cons_zero, List.getElem_cons_succ, List.setIfInBounds_toArray, List.set_cons_zero, List.set_cons_succ]
    refine wpTill.take 8 (.int .i64 0) rfl (by kernel_rfl) (by kernel_rfl) (fun _ _ _ h => h) (S5) (by rfl) (fun u hu => by go_simp) ?_
    simp only [Act.put, List.getElem_toArray, List.getElem_cons_zero, List.getElem_cons_succ, List.setIfInBounds_toArray, List.set_cons_zero, List.set_cons_succ]
    exact wpTill.same (by kernel_rfl) (END _ _ ⟨_, _, _, s15, P15, i15, j15, Q15, m15, k15, rfl, xb, lb, Lib.hid pq, h.fr⟩)
  · rintro a u ⟨t5, r1, r2, r3, rfl, h⟩
    obtain ⟨s15, P15, i15, j15, Q15, m15, k15, rfl, _, pq⟩ := h.g2 (Nat.le_refl 2)
    have PQ := Lib.hid (pq rfl)
    clear pq
    have S5 := KS _ h.fr
    refine wpTill.take 6 (.tuple #[.agg #[.bool s15, .slice P15 i15 j15, .slice Q15 m15 k15], .int .i64 0]) rfl (by kernel_rfl) (by kernel_rfl) (fun _ _ _ h => h) (S5) (by rfl) (fun u hu => by go_simp) ?_
    simp only [Act.put, List.getElem_toArray, List.getElem_cons_zero, List.getElem_cons_succ, List.setIfInBounds_toArray, List.set_cons_zero, List.set_cons_succ]
    refine wpTill.take 7 (.agg #[.bool s15, .slice P15 i15 j15, .slice Q15 m15 k15]) rfl (by kernel_rfl) (by kernel_rfl) (fun _ _ _ h => h) (S5) (by rfl) (fun u hu => by go_simp) ?_
    simp only [Act.put, List.getElem_toArray, List.getElem_cons_zero, List.getElem_cons_succ, List.setIfInBounds_toArray, List.set_cons_zero, List.set_cons_succ]
    refine wpTill.take 8 (.int .i64 0) rfl (by kernel_rfl) (by kernel_rfl) (fun _ _ _ h => h) (S5) (by rfl) (fun u hu => by go_simp) ?_
    simp only [Act.put, List.getElem_toArray, List.getElem_cons_zero, List.getElem_cons_succ, List.setIfInBounds_toArray, List.set_cons_zero, List.set_cons_succ]
    have hA := (Fr.refl (fun k => k < u.heap.size) u).alloc (.cells #[.bool false, .slice none 0 0, .slice none 0 0] 36)
    refine wpTill.next 9 rfl (by kernel_rfl) (by rfl) (fun K hK => ?_)
    go_simp
    refine hK _ _ (fun _ => KS _ (fr_then h.fr hA)) ?_
    clear hK K
    try simp only [Act.put, List.getElem_toArray, List.getElem_cons_zero, List.getElem_cons_succ, List.setIfInBounds_toArray, List.set_cons_zero, List.set_cons_succ]
    refine wpTill.same (by kernel_rfl) (END _ _ ?_)
    exact ⟨r1, .tuple #[.agg #[.bool s15, .slice P15 i15 j15, .slice Q15 m15 k15], .int .i64 0], u.heap.size, s15, P15, i15, j15, Q15, m15, k15, rfl, Box3.new _ _ _ _ _, h.fr.size, Lib.hid ⟨PQ.out.1, PQ.out.2.keep hA⟩, fr_then h.fr hA⟩
  · exact ⟨_, _, _, undef, rfl, Solo.init G0⟩
end Go.Proofs.Ytjnojkfkhccgaaa
