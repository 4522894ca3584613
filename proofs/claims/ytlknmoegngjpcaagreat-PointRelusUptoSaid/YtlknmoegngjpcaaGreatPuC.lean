import Derived.Test.YtlknmoegngjpcaaGreatPuB
set_option linter.unusedSimpArgs false
set_option linter.unusedVariables false

/- PointRelus: printed by gen_puc.py. -/
namespace Go.Proofs.YtlknmoegngjpcaaGreat
open Go.RowKit

def rluQ (q : Rat) : Rat := if q.num.sign < 0 then 0 else q
def stpQ (q : Rat) : Rat := ((max q.num.sign 0 : Int) : Rat)
theorem fit_can {sh : List Int} {l : List Rat} {L : Nat} (h1 : sh.length ≤ 1099511627000) (h2 : l.length ≤ 1099511627000) (h : ∀ q ∈ l, (dg LB q.num.natAbs).length ≤ L ∧ (dg LB q.den).length ≤ L) (hL1 : 1 ≤ L) (hL : L ≤ 1048578) : Fit sh (l.map canR) L :=
  ⟨h1, by rw [List.length_map]; exact h2, fun x hx => by obtain ⟨q, hq, rfl⟩ := List.mem_map.1 hx; exact h q hq, hL1, hL, fun x hx => by obtain ⟨q, hq, rfl⟩ := List.mem_map.1 hx; exact ⟨dg_lt LB2 _, dg_lt LB2 _⟩⟩
theorem can_map (f : Rat → Rat) (ea : List RatL) : (ea.map fun x => canR (f (qOf x))) = ((ea.map qOf).map f).map canR := by rw [List.map_map, List.map_map]; rfl
theorem q_can_map (f : Rat → Rat) (ea : List RatL) : (ea.map fun x => canR (f (qOf x))).map qOf = (ea.map qOf).map f := by rw [can_map, k_q]
theorem Fit.lens {sh : List Int} {es : List RatL} {L : Nat} (f : Fit sh es L) : ∀ q ∈ es.map qOf, (dg LB q.num.natAbs).length ≤ L ∧ (dg LB q.den).length ≤ L := fun q hq => by
  obtain ⟨x, hx, rfl⟩ := List.mem_map.1 hq
  exact qOf_len (f.lt x hx) (f.lx x hx).1 (f.lx x hx).2 f.one
theorem Fit.can {sh : List Int} {es : List RatL} {L : Nat} (f : Fit sh es L) (g : Rat → Rat) (hg : ∀ q, (dg LB q.num.natAbs).length ≤ L → (dg LB q.den).length ≤ L → (dg LB (g q).num.natAbs).length ≤ L ∧ (dg LB (g q).den).length ≤ L) : Fit sh (es.map fun x => canR (g (qOf x))) L := by
  rw [can_map]
  refine fit_can f.nsh (by rw [List.length_map, List.length_map]; exact f.nes) (fun q hq => ?_) f.one f.top
  obtain ⟨p, hp, rfl⟩ := List.mem_map.1 hq
  have := f.lens p hp
  exact hg p this.1 this.2
theorem may_can {sh : List Int} {es : List RatL} {l : List Rat} (h : mayT sh es = 0) (hl : l.length = es.length) : mayT sh (l.map canR) = 0 := mayT_0 (by
    have h1 := mayT_ok h
    rw [List.length_map]
    exact fitsT_0 h1.1 (by rw [hl]; exact h1.2.1)) fun x hx => by
  obtain ⟨q, _, rfl⟩ := List.mem_map.1 hx
  exact like_can _
theorem may_map {sh : List Int} {es : List RatL} (h : mayT sh es = 0) (g : Rat → Rat) : mayT sh (es.map fun x => canR (g (qOf x))) = 0 := by
  rw [can_map]
  exact may_can h (by rw [List.length_map, List.length_map])
theorem one_len {L : Nat} (hL : 1 ≤ L) : (dg LB 1).length ≤ L := Nat.le_trans (dg_len_le LB2 (k := 1) (by decide)) hL
theorem neg_lens {L : Nat} (q : Rat) (h1 : (dg LB q.num.natAbs).length ≤ L) (h2 : (dg LB q.den).length ≤ L) : (dg LB (-q).num.natAbs).length ≤ L ∧ (dg LB (-q).den).length ≤ L := by
  rw [Rat.neg_num, Int.natAbs_neg, Rat.neg_den]
  exact ⟨h1, h2⟩
theorem rlu_lens {L : Nat} (hL : 1 ≤ L) (q : Rat) (h1 : (dg LB q.num.natAbs).length ≤ L) (h2 : (dg LB q.den).length ≤ L) : (dg LB (rluQ q).num.natAbs).length ≤ L ∧ (dg LB (rluQ q).den).length ≤ L := by
  unfold rluQ
  split
  · exact ⟨by rw [show (0 : Rat).num.natAbs = 0 from rfl, dg_zero]; exact Nat.zero_le _, one_len hL⟩
  · exact ⟨h1, h2⟩
theorem stp_lens {L : Nat} (hL : 1 ≤ L) (q : Rat) (_ : (dg LB q.num.natAbs).length ≤ L) (_ : (dg LB q.den).length ≤ L) : (dg LB (stpQ q).num.natAbs).length ≤ L ∧ (dg LB (stpQ q).den).length ≤ L := by
  unfold stpQ
  rw [Rat.num_intCast, Rat.den_intCast]
  rcases sign_3 q with h | h | h <;> rw [h]
  · exact ⟨by rw [show (max (-1 : Int) 0).natAbs = 0 from rfl, dg_zero]; exact Nat.zero_le _, one_len hL⟩
  · exact ⟨by rw [show (max (0 : Int) 0).natAbs = 0 from rfl, dg_zero]; exact Nat.zero_le _, one_len hL⟩
  · exact ⟨by rw [show (max (1 : Int) 0).natAbs = 1 from rfl]; exact one_len hL, one_len hL⟩
theorem rlu_stp (q : Rat) : rluQ q = q * stpQ q := by
  unfold rluQ stpQ
  rcases sign_3 q with h | h | h <;> rw [h]
  · rw [if_pos (by decide), show ((max (-1 : Int) 0 : Int) : Rat) = 0 from rfl, Rat.mul_zero]
  · rw [if_neg (by decide), show ((max (0 : Int) 0 : Int) : Rat) = 0 from rfl, Rat.mul_zero]
    exact Rat.num_eq_zero.1 (Int.sign_eq_zero_iff_zero.1 h)
  · rw [if_neg (by decide), show ((max (1 : Int) 0 : Int) : Rat) = 1 from rfl, Rat.mul_one]
theorem rlu_neg (q : Rat) : rluQ q - rluQ (-q) = q := by
  unfold rluQ
  rw [Rat.neg_num, Int.sign_neg]
  rcases sign_3 q with h | h | h <;> rw [h]
  · rw [if_pos (by decide), if_neg (by decide), Rat.sub_eq_add_neg, Rat.neg_neg, Rat.zero_add]
  · have h0 : q = 0 := Rat.num_eq_zero.1 (Int.sign_eq_zero_iff_zero.1 h)
    rw [if_neg (by decide), if_neg (by decide), h0]
    decide +kernel
  · rw [if_neg (by decide), if_pos (by decide), Rat.sub_eq_add_neg, Rat.neg_zero, Rat.add_zero]
theorem zip_self (f : Rat → Rat → Rat) (g h : Rat → Rat) : ∀ l : List Rat, List.zipWith f (l.map g) (l.map h) = l.map fun q => f (g q) (h q)
  | [] => rfl
  | q :: l => by rw [List.map_cons, List.map_cons, List.zipWith_cons_cons, zip_self f g h l]; rfl
theorem relus_1 (ea : List RatL) : (ea.map fun x => canR (rluQ (qOf x))).map qOf = ((List.range ea.length).map (zipG mulG ea (ea.map fun x => canR (stpQ (qOf x))))).map qOf := by
  rw [zip_mul ea _ (by rw [List.length_map]), q_can_map, k_q, q_can_map]
  have := zip_self (fun x y => x * y) (fun q => q) stpQ (ea.map qOf)
  rw [List.map_id'] at this
  rw [this]
  exact List.map_congr_left fun q _ => rlu_stp q
theorem relus_2 (ea : List RatL) : ((List.range (ea.map fun x => canR (rluQ (qOf x))).length).map (zipG subG (ea.map fun x => canR (rluQ (qOf x))) ((ea.map fun x => canR (-(qOf x))).map fun x => canR (rluQ (qOf x))))).map qOf = ea.map qOf := by
  rw [zip_map (fun x y => x - y) subG (fun _ _ => rfl) _ _ (by simp), k_q, q_can_map, q_can_map rluQ (ea.map fun x => canR (-(qOf x))), q_can_map (fun q => -q), show ∀ l : List Rat, (l.map fun q => -q).map rluQ = l.map fun q => rluQ (-q) from fun l => by rw [List.map_map]; rfl, zip_self]
  refine (List.map_congr_left fun q _ => ?_).trans (List.map_id _)
  exact rlu_neg q
theorem relus_mu (ea : List RatL) : (ea.map fun x => canR (rluQ (qOf x))) = (List.range ea.length).map (zipG mulG ea (ea.map fun x => canR (stpQ (qOf x)))) := by
  have h := congrArg (List.map canR) (relus_1 ea)
  rw [q_can_map, ← can_map] at h
  rw [h, zip_mul ea _ (by rw [List.length_map]), k_q]
theorem relus_su (ea : List RatL) : (List.range (ea.map fun x => canR (rluQ (qOf x))).length).map (zipG subG (ea.map fun x => canR (rluQ (qOf x))) ((ea.map fun x => canR (-(qOf x))).map fun x => canR (rluQ (qOf x)))) = ea.map fun x => canR (qOf x) := by
  have h := congrArg (List.map canR) (relus_2 ea)
  rw [zip_map (fun x y => x - y) subG (fun _ _ => rfl) _ _ (by simp), k_q] at h
  rw [zip_map (fun x y => x - y) subG (fun _ _ => rfl) _ _ (by simp), h, List.map_map]
  rfl

set_option maxRecDepth 20000 in
set_option maxHeartbeats 32000000 in
theorem prelus_walk {S : Nat → Prop} {sha : List Int} {ea : List RatL} (w : World) (vx : Value) (L : Nat) (hx : TL S w vx sha ea L) (hL : L ≤ 1048576) :
    Calls Tryz.prog 10 #[vx] w fun e w' => e = .returned (.bool true) ∧ Fr (fun k => k < w.heap.size) w w' := by
  have FA := Lib.hid (hx.fit hL)
  have FQA := Lib.hid (FA.out.fq)
  obtain ⟨va, ve, rfl, ha, he⟩ := hx.ex
  obtain ⟨A, c, rfl, _, _, _⟩ := ha.slice
  obtain ⟨A', c', rfl, _, _, _⟩ := he.slice
  have HA := TV.hold ⟨ha.any, he.any⟩
  clear hx ha he
  have F := (Fr.refl (fun k => k < w.heap.size) w).alloc (.cells #[.slice A sha.length c, .slice A' ea.length c'] 26)
  have xa := Box2.new w 26 (.slice A sha.length c) (.slice A' ea.length c')
  replace HA := HA.keep (F.mono fun k h _ => h)
  obtain ⟨b1, hb1⟩ : ∃ b, fewB ea = b := ⟨_, rfl⟩
  obtain ⟨r, hr⟩ : ∃ r, mayT sha ea = r := ⟨_, rfl⟩
  have HB1 := Lib.hid hb1
  have HR := Lib.hid hr
  have HM := Lib.hid (show r = 0 → bothE noR sha ea sha (ea.map fun x => canR (stpQ (qOf x))) = 0 ∧ bothE noR sha (ea.map fun x => canR (rluQ (qOf x))) sha ((ea.map fun x => canR (-(qOf x))).map fun x => canR (rluQ (qOf x))) = 0 ∧ mayT sha (ea.map fun x => canR (-(qOf x))) = 0 from fun h => by
    have h1 : mayT sha ea = 0 := by rw [hr, h]
    have h2 := may_map h1 (fun q => -q)
    exact ⟨bothE_0 h1 (may_map h1 stpQ) rfl fun _ _ => rfl, bothE_0 (may_map h1 rluQ) (may_map h2 rluQ) rfl fun _ _ => rfl, h2⟩)
  have FRL := Lib.hid (FA.out.can rluQ (rlu_lens FA.out.one))
  have FST := Lib.hid (FA.out.can stpQ (stp_lens FA.out.one))
  have FNG := Lib.hid (FA.out.can (fun q => -q) neg_lens)
  have FRN := Lib.hid (FNG.out.can rluQ (rlu_lens FA.out.one))
  have FMU := Lib.hid (show Fit sha ((List.range ea.length).map (zipG mulG ea (ea.map fun x => canR (stpQ (qOf x))))) (L + 2) by rw [← relus_mu]; exact FRL.out)
  have FSU := Lib.hid (show Fit sha ((List.range (ea.map fun x => canR (rluQ (qOf x))).length).map (zipG subG (ea.map fun x => canR (rluQ (qOf x))) ((ea.map fun x => canR (-(qOf x))).map fun x => canR (rluQ (qOf x))))) (L + 2) by rw [relus_su]; exact FA.out.can (fun q => q) fun q h1 h2 => ⟨h1, h2⟩)
  clear hb1 hr
  go_enter Tryz.func10, Tryz.ntmps10
  repeat' ((fail_if_success (with_reducible refine wpTill.row (fun _ => True) 0 ?_ ?_)); go_step)
  apply wp_region_lit
  repeat' ((fail_if_success (with_reducible refine wpTill.row (fun _ => True) 0 ?_ ?_)); go_step)
  generalize w.alloc (.cells #[.slice A sha.length c, .slice A' ea.length c'] 26) = W0 at F xa HA  ⊢
  cases b1
  · refine wpTill.row (fun _ => True) 7 (by kernel_rfl) ?_
    change wpTill _ _ _ _ _ _ 8 _ _ _
    refine wpTill.free (jj := 7) (m := 0) [(0, Fact.eq (.agg #[.slice A sha.length c, .slice A' ea.length c'])),
      (1, Fact.eq (.bool false)),
      (2, Fact.eq (.bool true)),
      (3, Fact.eq (.bool true)),
      (4, Fact.eq undef),
      (5, Fact.eq undef),
      (6, Fact.eq undef),
      (7, Fact.eq (.bool true))] [] [0, 1, 3, 7, 15, 31, 63, 127] [] ?_ (by kernel_rfl) (by kernel_rfl) (by kernel_rfl) [(0, some 15), (1, some 16), (2, some 17), (3, some 18), (4, some 19), (5, some 20), (6, some 21), (7, some 22)] (by kernel_rfl) ?hA34 ?hQ34 (fun _ _ => trivial) (by kernel_rfl) ?steps34 ?looses34 ?cont34
    case hQ34 => exact fun _ _ _ _ _ h => h
    case hA34 =>
      intro vs
      simp only [fillD, List.foldl_cons, List.foldl_nil, Act.put, List.setIfInBounds_toArray, List.set_cons_zero, List.set_cons_succ]
      exact rfl
    case steps34 =>
      refine ⟨?_, ?_, ?_, ?_, ?_, ?_, ?_, ?_, trivial⟩
      · rintro vs u ⟨hV0, hV1, hV2, hV3, hV4, hV5, hV6, hV7, -⟩ G
        have o0 := (xa.keep G).c0
        have o1 := (xa.keep G).c1
        exact stepAt.pure (v := .agg #[.slice A sha.length c, .slice A' ea.length c']) rfl rfl (by go_simp) rfl
      · rintro vs u ⟨hV0, hV1, hV2, hV3, hV4, hV5, hV6, hV7, -⟩ G
        refine stepAt.call (f := 11) (args := #[vs 0]) rfl rfl (by go_simp) ?_
        have eV0 : vs 0 = .agg #[.slice A sha.length c, .slice A' ea.length c'] := hV0 rfl
        rw [eV0]
        exact (few_u (HA.at G) HB1).mono fun _ _ ⟨v, h1, h2, h3⟩ => ⟨v, h1, h2, h3.now⟩
      · rintro vs u ⟨hV0, hV1, hV2, hV3, hV4, hV5, hV6, hV7, -⟩ G
        have eV1 : vs 1 = .bool false := hV1 rfl
        exact stepAt.pure (v := .bool true) rfl rfl (by simp only [eV1]; go_simp) rfl
      · rintro vs u ⟨hV0, hV1, hV2, hV3, hV4, hV5, hV6, hV7, -⟩ G
        have eV2 : vs 2 = .bool true := hV2 rfl
        exact stepAt.pure (v := .bool true) rfl rfl (by simp only [eV2]; go_simp) rfl
      · rintro vs u ⟨hV0, hV1, hV2, hV3, hV4, hV5, hV6, hV7, -⟩ G
        exact stepAt.unwanted rfl (wanted_not (g := 3) (b := false) (t := 18) rfl (by kernel_rfl) (congrArg some (show vs 3 = _ from hV3 rfl))) rfl
      · rintro vs u ⟨hV0, hV1, hV2, hV3, hV4, hV5, hV6, hV7, -⟩ G
        exact stepAt.unwanted rfl (wanted_not (g := 3) (b := false) (t := 18) rfl (by kernel_rfl) (congrArg some (show vs 3 = _ from hV3 rfl))) rfl
      · rintro vs u ⟨hV0, hV1, hV2, hV3, hV4, hV5, hV6, hV7, -⟩ G
        exact stepAt.unwanted rfl (wanted_not (g := 3) (b := false) (t := 18) rfl (by kernel_rfl) (congrArg some (show vs 3 = _ from hV3 rfl))) rfl
      · rintro vs u ⟨hV0, hV1, hV2, hV3, hV4, hV5, hV6, hV7, -⟩ G
        have eV3 : vs 3 = .bool true := hV3 rfl
        have eV6 : vs 6 = undef := hV6 rfl
        exact stepAt.pure (v := .bool true) rfl rfl (by simp only [eV3, eV6]; go_simp) rfl
    case looses34 =>
      exact trivial
    rintro vs U1 ⟨hV0, hV1, hV2, hV3, hV4, hV5, hV6, hV7, -⟩ G
    have eV0 : vs 0 = .agg #[.slice A sha.length c, .slice A' ea.length c'] := hV0
    have eV1 : vs 1 = .bool false := hV1
    have eV2 : vs 2 = .bool true := hV2
    have eV3 : vs 3 = .bool true := hV3
    have eV4 : vs 4 = undef := hV4
    have eV5 : vs 5 = undef := hV5
    have eV6 : vs 6 = undef := hV6
    have eV7 : vs 7 = .bool true := hV7
    simp only [eV0, eV1, eV2, eV3, eV4, eV5, eV6, eV7]
    clear eV0 eV1 eV2 eV3 eV4 eV5 eV6 eV7 hV0 hV1 hV2 hV3 hV4 hV5 hV6 hV7
    refine wpTill.done (by kernel_rfl) ?_
    replace xa := xa.keep G
    replace HA := HA.keep G
    replace F := fr_then F G
    clear G
    repeat' ((fail_if_success (with_reducible refine wpTill.row (fun _ => True) 0 ?_ ?_)); go_step)
    refine wpTill.row (fun _ => True) 1 (by kernel_rfl) ?_
    change wpTill _ _ _ _ _ _ 2 _ _ _
    refine wpTill.free (jj := 1) (m := 1) [(0, Fact.eq (.bool true))] [] [0, 1] [] ?_ (by kernel_rfl) (by kernel_rfl) (by kernel_rfl) [(0, some 23)] (by kernel_rfl) ?hA35 ?hQ35 (fun _ _ => trivial) (by kernel_rfl) ?steps35 ?looses35 ?cont35
    case hQ35 => exact fun _ _ _ _ _ h => h
    case hA35 =>
      intro vs
      simp only [fillD, List.foldl_cons, List.foldl_nil, Act.put, List.setIfInBounds_toArray, List.set_cons_zero, List.set_cons_succ]
      exact rfl
    case steps35 =>
      refine ⟨?_, trivial⟩
      · rintro vs u ⟨hV0, -⟩ G
        refine stepAt.call (f := 15) (args := #[]) rfl rfl (by go_simp) ?_
        exact (known_u u).mono fun _ _ ⟨v, h1, h2, h3⟩ => ⟨v, h1, h2, h3.now⟩
    case looses35 =>
      exact trivial
    rintro vs U2 ⟨hV0, -⟩ G
    have eV0 : vs 0 = .bool true := hV0
    simp only [eV0]
    clear eV0 hV0
    refine wpTill.next 1 rfl (by kernel_rfl) (by rfl) (fun K hK => ?_)
    go_simp
    refine hK _ _ (no_wait (by kernel_rfl)) ?_
    clear hK K
    refine wpTill.done (by kernel_rfl) ?_
    replace xa := xa.keep G
    replace HA := HA.keep G
    replace F := fr_then F G
    clear G
    repeat' ((fail_if_success (with_reducible refine wpTill.row (fun _ => True) 0 ?_ ?_)); go_step)
    go_ret
    exact ⟨rfl, F⟩
  · by_cases h0 : r = 0
    · subst h0
      have HM1 := Lib.hid (HM.out rfl).1
      have HM2 := Lib.hid (HM.out rfl).2.1
      have HM3 := Lib.hid (HM.out rfl).2.2
      clear HM
      refine wpTill.row (fun _ => True) 7 (by kernel_rfl) ?_
      change wpTill _ _ _ _ _ _ 8 _ _ _
      refine wpTill.free (jj := 7) (m := 0) [(0, Fact.eq (.agg #[.slice A sha.length c, .slice A' ea.length c'])),
      (1, Fact.eq (.bool true)),
      (2, Fact.eq (.bool false)),
      (3, Fact.eq (.bool false)),
      (4, Fact.eq (.agg #[.slice A sha.length c, .slice A' ea.length c'])),
      (5, Fact.eq (.int .i64 0)),
      (6, Fact.eq (.bool false)),
      (7, Fact.eq (.bool false))] [] [0, 1, 3, 7, 15, 31, 63, 127] [] ?_ (by kernel_rfl) (by kernel_rfl) (by kernel_rfl) [(0, some 15), (1, some 16), (2, some 17), (3, some 18), (4, some 19), (5, some 20), (6, some 21), (7, some 22)] (by kernel_rfl) ?hA38 ?hQ38 (fun _ _ => trivial) (by kernel_rfl) ?steps38 ?looses38 ?cont38
      case hQ38 => exact fun _ _ _ _ _ h => h
      case hA38 =>
        intro vs
        simp only [fillD, List.foldl_cons, List.foldl_nil, Act.put, List.setIfInBounds_toArray, List.set_cons_zero, List.set_cons_succ]
        exact rfl
      case steps38 =>
        refine ⟨?_, ?_, ?_, ?_, ?_, ?_, ?_, ?_, trivial⟩
        · rintro vs u ⟨hV0, hV1, hV2, hV3, hV4, hV5, hV6, hV7, -⟩ G
          have o0 := (xa.keep G).c0
          have o1 := (xa.keep G).c1
          exact stepAt.pure (v := .agg #[.slice A sha.length c, .slice A' ea.length c']) rfl rfl (by go_simp) rfl
        · rintro vs u ⟨hV0, hV1, hV2, hV3, hV4, hV5, hV6, hV7, -⟩ G
          refine stepAt.call (f := 11) (args := #[vs 0]) rfl rfl (by go_simp) ?_
          have eV0 : vs 0 = .agg #[.slice A sha.length c, .slice A' ea.length c'] := hV0 rfl
          rw [eV0]
          exact (few_u (HA.at G) HB1).mono fun _ _ ⟨v, h1, h2, h3⟩ => ⟨v, h1, h2, h3.now⟩
        · rintro vs u ⟨hV0, hV1, hV2, hV3, hV4, hV5, hV6, hV7, -⟩ G
          have eV1 : vs 1 = .bool true := hV1 rfl
          exact stepAt.pure (v := .bool false) rfl rfl (by simp only [eV1]; go_simp) rfl
        · rintro vs u ⟨hV0, hV1, hV2, hV3, hV4, hV5, hV6, hV7, -⟩ G
          have eV2 : vs 2 = .bool false := hV2 rfl
          exact stepAt.pure (v := .bool false) rfl rfl (by simp only [eV2]; go_simp) rfl
        · rintro vs u ⟨hV0, hV1, hV2, hV3, hV4, hV5, hV6, hV7, -⟩ G
          have o0 := (xa.keep G).c0
          have o1 := (xa.keep G).c1
          exact stepAt.pure (v := .agg #[.slice A sha.length c, .slice A' ea.length c']) rfl (wanted_by (g := 3) (b := false) (t := 18) rfl (by kernel_rfl) (congrArg some (show vs 3 = _ from hV3 rfl))) (by go_simp) rfl
        · rintro vs u ⟨hV0, hV1, hV2, hV3, hV4, hV5, hV6, hV7, -⟩ G
          refine stepAt.call (f := 12) (args := #[vs 4]) rfl (wanted_by (g := 3) (b := false) (t := 18) rfl (by kernel_rfl) (congrArg some (show vs 3 = _ from hV3 rfl))) (by go_simp) ?_
          have eV4 : vs 4 = .agg #[.slice A sha.length c, .slice A' ea.length c'] := hV4 rfl
          rw [eV4]
          exact (may_u (HA.at G) FA HR).mono fun _ _ ⟨v, h1, h2, h3⟩ => ⟨v, h1, h2, h3.now⟩
        · rintro vs u ⟨hV0, hV1, hV2, hV3, hV4, hV5, hV6, hV7, -⟩ G
          have eV5 : vs 5 = .int .i64 0 := hV5 rfl
          exact stepAt.pure (v := .bool false) rfl (wanted_by (g := 3) (b := false) (t := 18) rfl (by kernel_rfl) (congrArg some (show vs 3 = _ from hV3 rfl))) (by simp only [eV5]; go_simp <;> omega) rfl
        · rintro vs u ⟨hV0, hV1, hV2, hV3, hV4, hV5, hV6, hV7, -⟩ G
          have eV3 : vs 3 = .bool false := hV3 rfl
          have eV6 : vs 6 = .bool false := hV6 rfl
          exact stepAt.pure (v := .bool false) rfl rfl (by simp only [eV3, eV6]; go_simp) rfl
      case looses38 =>
        exact trivial
      rintro vs U1 ⟨hV0, hV1, hV2, hV3, hV4, hV5, hV6, hV7, -⟩ G
      have eV0 : vs 0 = .agg #[.slice A sha.length c, .slice A' ea.length c'] := hV0
      have eV1 : vs 1 = .bool true := hV1
      have eV2 : vs 2 = .bool false := hV2
      have eV3 : vs 3 = .bool false := hV3
      have eV4 : vs 4 = .agg #[.slice A sha.length c, .slice A' ea.length c'] := hV4
      have eV5 : vs 5 = .int .i64 0 := hV5
      have eV6 : vs 6 = .bool false := hV6
      have eV7 : vs 7 = .bool false := hV7
      simp only [eV0, eV1, eV2, eV3, eV4, eV5, eV6, eV7]
      clear eV0 eV1 eV2 eV3 eV4 eV5 eV6 eV7 hV0 hV1 hV2 hV3 hV4 hV5 hV6 hV7
      refine wpTill.done (by kernel_rfl) ?_
      replace xa := xa.keep G
      replace HA := HA.keep G
      replace F := fr_then F G
      clear G
      repeat' ((fail_if_success (with_reducible refine wpTill.row (fun _ => True) 0 ?_ ?_)); go_step)
      refine wpTill.row (fun _ => True) 6 (by kernel_rfl) ?_
      change wpTill _ _ _ _ _ _ 8 _ _ _
      refine wpTill.free (jj := 6) (m := 2) [(0, Fact.eq (.agg #[.slice A sha.length c, .slice A' ea.length c'])),
      (1, Fact.held (Tup (0) (TC 0 sha (ea.map fun x => canR (rluQ (qOf x)))))),
      (2, Fact.same 1),
      (3, Fact.fst 2),
      (5, Fact.mem (New2 U1.heap.size 26 (.slice none 0 0) (.slice none 0 0)) New2.keep)] [(4, Fact.snd 2)] [0, 1, 3, 7, 7, 0, 47, 127] [] ?_ (by kernel_rfl) (by kernel_rfl) (by kernel_rfl) [(0, some 25), (1, some 26), (2, some 24), (3, some 27), (5, some 3), (4, some 28)] (by kernel_rfl) ?hA39 ?hQ39 (fun _ _ => trivial) (by kernel_rfl) ?steps39 ?looses39 ?cont39
      case hQ39 => exact fun _ _ _ _ _ h => h
      case hA39 =>
        intro vs
        simp only [fillD, List.foldl_cons, List.foldl_nil, Act.put, List.setIfInBounds_toArray, List.set_cons_zero, List.set_cons_succ]
        exact rfl
      case steps39 =>
        refine ⟨?_, ?_, ?_, ?_, ?_, trivial⟩
        · rintro vs u ⟨hV0, hV1, hV2, hV3, hV5, hV4, -⟩ G
          have o0 := (xa.keep G).c0
          have o1 := (xa.keep G).c1
          exact stepAt.pure (v := .agg #[.slice A sha.length c, .slice A' ea.length c']) rfl rfl (by go_simp) rfl
        · rintro vs u ⟨hV0, hV1, hV2, hV3, hV5, hV4, -⟩ G
          refine stepAt.call (f := 20) (args := #[vs 0]) rfl rfl (by go_simp) ?_
          have eV0 : vs 0 = .agg #[.slice A sha.length c, .slice A' ea.length c'] := hV0 rfl
          rw [eV0]
          exact relu_u (HA.at G) FA HR
        · rintro vs u ⟨hV0, hV1, hV2, hV3, hV5, hV4, -⟩ G
          exact stepAt.pure (v := vs 1) rfl rfl (by go_simp) rfl
        · rintro vs u ⟨hV0, hV1, hV2, hV3, hV5, hV4, -⟩ G
          have HV1 : Hold (fun u' => (Tup (0) (TC 0 sha (ea.map fun x => canR (rluQ (qOf x))))) u' (vs 1)) u := hV1 rfl
          obtain ⟨A2_1, n2_1, c2_1, B2_1, m2_1, k2_1, eV1, -⟩ := HV1.now
          rw [eV1] at HV1
          have eV2 : vs 2 = .tuple #[.agg #[.slice A2_1 n2_1 c2_1, .slice B2_1 m2_1 k2_1], .int .i64 0] := (show vs 2 = vs 1 from hV2 rfl).trans eV1
          exact stepAt.pure (v := .agg #[.slice A2_1 n2_1 c2_1, .slice B2_1 m2_1 k2_1]) rfl rfl (by simp only [eV2]; go_simp) ⟨_, _, eV2, rfl⟩
        · rintro vs u ⟨hV0, hV1, hV2, hV3, hV5, hV4, -⟩ G
          exact stepAt.value (v := .pointer (some ⟨u.heap.size, 0, none⟩)) (u := u.alloc (.cells #[.slice none 0 0, .slice none 0 0] 26)) rfl rfl (by go_simp) ((Fr.refl _ _).alloc _) ⟨_, rfl, G.size, Box2.new _ _ _ _⟩
      case looses39 =>
        refine ⟨?_, trivial⟩
        · rintro vs u ⟨hV0, hV1, hV2, hV3, hV5, hV4, -⟩ G
          have HV1 : Hold (fun u' => (Tup (0) (TC 0 sha (ea.map fun x => canR (rluQ (qOf x))))) u' (vs 1)) u := hV1 rfl
          obtain ⟨A2_1, n2_1, c2_1, B2_1, m2_1, k2_1, eV1, -⟩ := HV1.now
          rw [eV1] at HV1
          have eV2 : vs 2 = .tuple #[.agg #[.slice A2_1 n2_1 c2_1, .slice B2_1 m2_1 k2_1], .int .i64 0] := (show vs 2 = vs 1 from hV2 rfl).trans eV1
          exact pureAt.of (v := .int .i64 0) rfl rfl (fun _ => by simp only [eV2]; go_simp) ⟨_, _, eV2, rfl⟩
      rintro vs u ⟨hV0, hV1, hV2, hV3, hV5, hV4, -⟩ G
      have eV0 : vs 0 = .agg #[.slice A sha.length c, .slice A' ea.length c'] := hV0
      replace hV1 : Hold (fun u' => (Tup (0) (TC 0 sha (ea.map fun x => canR (rluQ (qOf x))))) u' (vs 1)) u := hV1
      obtain ⟨A2_1, n2_1, c2_1, B2_1, m2_1, k2_1, eV1, -⟩ := hV1.now
      rw [eV1] at hV1
      have eV2 : vs 2 = _ := (show vs 2 = vs 1 from hV2).trans eV1
      obtain ⟨x3, z3, a3, eV3⟩ := hV3
      have a3 := eV2.symm.trans a3
      cases a3
      replace eV3 : vs 3 = _ := eV3
      obtain ⟨b2_5, eV5, l2_5, y2_5⟩ := hV5
      replace eV5 : vs 5 = _ := eV5
      obtain ⟨x4, z4, a4, eV4⟩ := hV4
      have a4 := eV2.symm.trans a4
      cases a4
      replace eV4 : vs 4 = _ := eV4
      simp only [eV0, eV1, eV2, eV3, eV5, eV4]
      clear eV0 eV1 eV2 eV3 eV5 eV4 hV0 hV2
      have g0 := y2_5.free 0
      have g1 := y2_5.free 1
      have g2 := y2_5.c0
      have g3 := y2_5.c1
      refine wpTill.next 6 rfl (by kernel_rfl) (by rfl) (fun K hK => ?_)
      go_simp
      refine hK _ _ (no_wait (by kernel_rfl)) ?_
      clear hK K
      refine wpTill.next 7 rfl (by kernel_rfl) (by rfl) (fun K hK => ?_)
      go_simp
      refine hK _ _ (no_wait (by kernel_rfl)) ?_
      clear hK K
      refine wpTill.done (by kernel_rfl) ?_
      have F9 := fr_put2 u b2_5 (.slice A2_1 n2_1 c2_1) (.slice B2_1 m2_1 k2_1)
      have G9 := G.comp F9 (R := fun k => k < U1.heap.size) fun k _ hk => ⟨hk, by omega⟩
      have z2 := y2_5.set2 (.slice A2_1 n2_1 c2_1) (.slice B2_1 m2_1 k2_1)
      have T2 := (hV1.now.out.fill (.slice A2_1 n2_1 c2_1) (.slice B2_1 m2_1 k2_1) y2_5).hold
      replace xa := xa.keep G9
      replace HA := HA.keep G9
      replace F := fr_then F G9
      generalize (u.setCell ⟨b2_5, 0, none⟩ (.slice A2_1 n2_1 c2_1)).setCell ⟨b2_5, 1, none⟩ (.slice B2_1 m2_1 k2_1) = U2 at z2 T2 xa HA F ⊢
      clear g0 g1 g2 g3 F9 G9 G y2_5 l2_5 hV1
      repeat' ((fail_if_success (with_reducible refine wpTill.row (fun _ => True) 0 ?_ ?_)); go_step)
      refine wpTill.row (fun _ => True) 6 (by kernel_rfl) ?_
      change wpTill _ _ _ _ _ _ 8 _ _ _
      refine wpTill.free (jj := 6) (m := 2) [(0, Fact.eq (.agg #[.slice A sha.length c, .slice A' ea.length c'])),
      (1, Fact.held (Tup (0) (TC 0 sha (ea.map fun x => canR (stpQ (qOf x)))))),
      (2, Fact.same 1),
      (3, Fact.fst 2),
      (5, Fact.mem (New2 U2.heap.size 26 (.slice none 0 0) (.slice none 0 0)) New2.keep)] [(4, Fact.snd 2)] [0, 1, 3, 7, 7, 0, 47, 127] [] ?_ (by kernel_rfl) (by kernel_rfl) (by kernel_rfl) [(0, some 30), (1, some 31), (2, some 29), (3, some 32), (5, some 5), (4, some 33)] (by kernel_rfl) ?hA40 ?hQ40 (fun _ _ => trivial) (by kernel_rfl) ?steps40 ?looses40 ?cont40
      case hQ40 => exact fun _ _ _ _ _ h => h
      case hA40 =>
        intro vs
        simp only [fillD, List.foldl_cons, List.foldl_nil, Act.put, List.setIfInBounds_toArray, List.set_cons_zero, List.set_cons_succ]
        exact rfl
      case steps40 =>
        refine ⟨?_, ?_, ?_, ?_, ?_, trivial⟩
        · rintro vs u ⟨hV0, hV1, hV2, hV3, hV5, hV4, -⟩ G
          have o0 := (xa.keep G).c0
          have o1 := (xa.keep G).c1
          exact stepAt.pure (v := .agg #[.slice A sha.length c, .slice A' ea.length c']) rfl rfl (by go_simp) rfl
        · rintro vs u ⟨hV0, hV1, hV2, hV3, hV5, hV4, -⟩ G
          refine stepAt.call (f := 21) (args := #[vs 0]) rfl rfl (by go_simp) ?_
          have eV0 : vs 0 = .agg #[.slice A sha.length c, .slice A' ea.length c'] := hV0 rfl
          rw [eV0]
          exact step_u (HA.at G) FA HR
        · rintro vs u ⟨hV0, hV1, hV2, hV3, hV5, hV4, -⟩ G
          exact stepAt.pure (v := vs 1) rfl rfl (by go_simp) rfl
        · rintro vs u ⟨hV0, hV1, hV2, hV3, hV5, hV4, -⟩ G
          have HV1 : Hold (fun u' => (Tup (0) (TC 0 sha (ea.map fun x => canR (stpQ (qOf x))))) u' (vs 1)) u := hV1 rfl
          obtain ⟨A3_1, n3_1, c3_1, B3_1, m3_1, k3_1, eV1, -⟩ := HV1.now
          rw [eV1] at HV1
          have eV2 : vs 2 = .tuple #[.agg #[.slice A3_1 n3_1 c3_1, .slice B3_1 m3_1 k3_1], .int .i64 0] := (show vs 2 = vs 1 from hV2 rfl).trans eV1
          exact stepAt.pure (v := .agg #[.slice A3_1 n3_1 c3_1, .slice B3_1 m3_1 k3_1]) rfl rfl (by simp only [eV2]; go_simp) ⟨_, _, eV2, rfl⟩
        · rintro vs u ⟨hV0, hV1, hV2, hV3, hV5, hV4, -⟩ G
          exact stepAt.value (v := .pointer (some ⟨u.heap.size, 0, none⟩)) (u := u.alloc (.cells #[.slice none 0 0, .slice none 0 0] 26)) rfl rfl (by go_simp) ((Fr.refl _ _).alloc _) ⟨_, rfl, G.size, Box2.new _ _ _ _⟩
      case looses40 =>
        refine ⟨?_, trivial⟩
        · rintro vs u ⟨hV0, hV1, hV2, hV3, hV5, hV4, -⟩ G
          have HV1 : Hold (fun u' => (Tup (0) (TC 0 sha (ea.map fun x => canR (stpQ (qOf x))))) u' (vs 1)) u := hV1 rfl
          obtain ⟨A3_1, n3_1, c3_1, B3_1, m3_1, k3_1, eV1, -⟩ := HV1.now
          rw [eV1] at HV1
          have eV2 : vs 2 = .tuple #[.agg #[.slice A3_1 n3_1 c3_1, .slice B3_1 m3_1 k3_1], .int .i64 0] := (show vs 2 = vs 1 from hV2 rfl).trans eV1
          exact pureAt.of (v := .int .i64 0) rfl rfl (fun _ => by simp only [eV2]; go_simp) ⟨_, _, eV2, rfl⟩
      rintro vs u ⟨hV0, hV1, hV2, hV3, hV5, hV4, -⟩ G
      have eV0 : vs 0 = .agg #[.slice A sha.length c, .slice A' ea.length c'] := hV0
      replace hV1 : Hold (fun u' => (Tup (0) (TC 0 sha (ea.map fun x => canR (stpQ (qOf x))))) u' (vs 1)) u := hV1
      obtain ⟨A3_1, n3_1, c3_1, B3_1, m3_1, k3_1, eV1, -⟩ := hV1.now
      rw [eV1] at hV1
      have eV2 : vs 2 = _ := (show vs 2 = vs 1 from hV2).trans eV1
      obtain ⟨x3, z3, a3, eV3⟩ := hV3
      have a3 := eV2.symm.trans a3
      cases a3
      replace eV3 : vs 3 = _ := eV3
      obtain ⟨b3_5, eV5, l3_5, y3_5⟩ := hV5
      replace eV5 : vs 5 = _ := eV5
      obtain ⟨x4, z4, a4, eV4⟩ := hV4
      have a4 := eV2.symm.trans a4
      cases a4
      replace eV4 : vs 4 = _ := eV4
      simp only [eV0, eV1, eV2, eV3, eV5, eV4]
      clear eV0 eV1 eV2 eV3 eV5 eV4 hV0 hV2
      have g0 := y3_5.free 0
      have g1 := y3_5.free 1
      have g2 := y3_5.c0
      have g3 := y3_5.c1
      refine wpTill.next 6 rfl (by kernel_rfl) (by rfl) (fun K hK => ?_)
      go_simp
      refine hK _ _ (no_wait (by kernel_rfl)) ?_
      clear hK K
      refine wpTill.next 7 rfl (by kernel_rfl) (by rfl) (fun K hK => ?_)
      go_simp
      refine hK _ _ (no_wait (by kernel_rfl)) ?_
      clear hK K
      refine wpTill.done (by kernel_rfl) ?_
      have F9 := fr_put2 u b3_5 (.slice A3_1 n3_1 c3_1) (.slice B3_1 m3_1 k3_1)
      have G9 := G.comp F9 (R := fun k => k < U2.heap.size) fun k _ hk => ⟨hk, by omega⟩
      have z3 := y3_5.set2 (.slice A3_1 n3_1 c3_1) (.slice B3_1 m3_1 k3_1)
      have T3 := (hV1.now.out.fill (.slice A3_1 n3_1 c3_1) (.slice B3_1 m3_1 k3_1) y3_5).hold
      replace xa := xa.keep G9
      replace z2 := z2.keep G9
      replace HA := HA.keep G9
      replace T2 := T2.keep G9
      replace F := fr_then F G9
      generalize (u.setCell ⟨b3_5, 0, none⟩ (.slice A3_1 n3_1 c3_1)).setCell ⟨b3_5, 1, none⟩ (.slice B3_1 m3_1 k3_1) = U3 at z3 T3 xa z2 HA T2 F ⊢
      clear g0 g1 g2 g3 F9 G9 G y3_5 l3_5 hV1
      repeat' ((fail_if_success (with_reducible refine wpTill.row (fun _ => True) 0 ?_ ?_)); go_step)
      refine wpTill.row (fun _ => True) 7 (by kernel_rfl) ?_
      change wpTill _ _ _ _ _ _ 9 _ _ _
      refine wpTill.free (jj := 7) (m := 2) [(0, Fact.eq (.agg #[.slice A sha.length c, .slice A' ea.length c'])),
      (1, Fact.eq (.agg #[.slice A3_1 n3_1 c3_1, .slice B3_1 m3_1 k3_1])),
      (2, Fact.held (Tup (0) (TC 0 sha ((List.range ea.length).map (zipG mulG ea (ea.map fun x => canR (stpQ (qOf x)))))))),
      (3, Fact.same 2),
      (4, Fact.fst 3),
      (6, Fact.mem (New2 U3.heap.size 26 (.slice none 0 0) (.slice none 0 0)) New2.keep)] [(5, Fact.snd 3)] [0, 0, 3, 7, 15, 15, 0, 95, 255] [] ?_ (by kernel_rfl) (by kernel_rfl) (by kernel_rfl) [(0, some 35), (1, some 36), (2, some 37), (3, some 34), (4, some 38), (6, some 7), (5, some 39)] (by kernel_rfl) ?hA41 ?hQ41 (fun _ _ => trivial) (by kernel_rfl) ?steps41 ?looses41 ?cont41
      case hQ41 => exact fun _ _ _ _ _ h => h
      case hA41 =>
        intro vs
        simp only [fillD, List.foldl_cons, List.foldl_nil, Act.put, List.setIfInBounds_toArray, List.set_cons_zero, List.set_cons_succ]
        exact rfl
      case steps41 =>
        refine ⟨?_, ?_, ?_, ?_, ?_, ?_, trivial⟩
        · rintro vs u ⟨hV0, hV1, hV2, hV3, hV4, hV6, hV5, -⟩ G
          have o0 := (xa.keep G).c0
          have o1 := (xa.keep G).c1
          exact stepAt.pure (v := .agg #[.slice A sha.length c, .slice A' ea.length c']) rfl rfl (by go_simp) rfl
        · rintro vs u ⟨hV0, hV1, hV2, hV3, hV4, hV6, hV5, -⟩ G
          have o0 := (z3.keep G).c0
          have o1 := (z3.keep G).c1
          exact stepAt.pure (v := .agg #[.slice A3_1 n3_1 c3_1, .slice B3_1 m3_1 k3_1]) rfl rfl (by go_simp) rfl
        · rintro vs u ⟨hV0, hV1, hV2, hV3, hV4, hV6, hV5, -⟩ G
          refine stepAt.call (f := 30) (args := #[vs 0, vs 1]) rfl rfl (by go_simp) ?_
          have eV0 : vs 0 = .agg #[.slice A sha.length c, .slice A' ea.length c'] := hV0 rfl
          have eV1 : vs 1 = .agg #[.slice A3_1 n3_1 c3_1, .slice B3_1 m3_1 k3_1] := hV1 rfl
          rw [eV0, eV1]
          exact mul_u (HA.at G) ((T3.at G)).tv FA FST HM1
        · rintro vs u ⟨hV0, hV1, hV2, hV3, hV4, hV6, hV5, -⟩ G
          exact stepAt.pure (v := vs 2) rfl rfl (by go_simp) rfl
        · rintro vs u ⟨hV0, hV1, hV2, hV3, hV4, hV6, hV5, -⟩ G
          have HV2 : Hold (fun u' => (Tup (0) (TC 0 sha ((List.range ea.length).map (zipG mulG ea (ea.map fun x => canR (stpQ (qOf x))))))) u' (vs 2)) u := hV2 rfl
          obtain ⟨A4_2, n4_2, c4_2, B4_2, m4_2, k4_2, eV2, -⟩ := HV2.now
          rw [eV2] at HV2
          have eV3 : vs 3 = .tuple #[.agg #[.slice A4_2 n4_2 c4_2, .slice B4_2 m4_2 k4_2], .int .i64 0] := (show vs 3 = vs 2 from hV3 rfl).trans eV2
          exact stepAt.pure (v := .agg #[.slice A4_2 n4_2 c4_2, .slice B4_2 m4_2 k4_2]) rfl rfl (by simp only [eV3]; go_simp) ⟨_, _, eV3, rfl⟩
        · rintro vs u ⟨hV0, hV1, hV2, hV3, hV4, hV6, hV5, -⟩ G
          exact stepAt.value (v := .pointer (some ⟨u.heap.size, 0, none⟩)) (u := u.alloc (.cells #[.slice none 0 0, .slice none 0 0] 26)) rfl rfl (by go_simp) ((Fr.refl _ _).alloc _) ⟨_, rfl, G.size, Box2.new _ _ _ _⟩
      case looses41 =>
        refine ⟨?_, trivial⟩
        · rintro vs u ⟨hV0, hV1, hV2, hV3, hV4, hV6, hV5, -⟩ G
          have HV2 : Hold (fun u' => (Tup (0) (TC 0 sha ((List.range ea.length).map (zipG mulG ea (ea.map fun x => canR (stpQ (qOf x))))))) u' (vs 2)) u := hV2 rfl
          obtain ⟨A4_2, n4_2, c4_2, B4_2, m4_2, k4_2, eV2, -⟩ := HV2.now
          rw [eV2] at HV2
          have eV3 : vs 3 = .tuple #[.agg #[.slice A4_2 n4_2 c4_2, .slice B4_2 m4_2 k4_2], .int .i64 0] := (show vs 3 = vs 2 from hV3 rfl).trans eV2
          exact pureAt.of (v := .int .i64 0) rfl rfl (fun _ => by simp only [eV3]; go_simp) ⟨_, _, eV3, rfl⟩
      rintro vs u ⟨hV0, hV1, hV2, hV3, hV4, hV6, hV5, -⟩ G
      have eV0 : vs 0 = .agg #[.slice A sha.length c, .slice A' ea.length c'] := hV0
      have eV1 : vs 1 = .agg #[.slice A3_1 n3_1 c3_1, .slice B3_1 m3_1 k3_1] := hV1
      replace hV2 : Hold (fun u' => (Tup (0) (TC 0 sha ((List.range ea.length).map (zipG mulG ea (ea.map fun x => canR (stpQ (qOf x))))))) u' (vs 2)) u := hV2
      obtain ⟨A4_2, n4_2, c4_2, B4_2, m4_2, k4_2, eV2, -⟩ := hV2.now
      rw [eV2] at hV2
      have eV3 : vs 3 = _ := (show vs 3 = vs 2 from hV3).trans eV2
      obtain ⟨x4, z4, a4, eV4⟩ := hV4
      have a4 := eV3.symm.trans a4
      cases a4
      replace eV4 : vs 4 = _ := eV4
      obtain ⟨b4_6, eV6, l4_6, y4_6⟩ := hV6
      replace eV6 : vs 6 = _ := eV6
      obtain ⟨x5, z5, a5, eV5⟩ := hV5
      have a5 := eV3.symm.trans a5
      cases a5
      replace eV5 : vs 5 = _ := eV5
      simp only [eV0, eV1, eV2, eV3, eV4, eV6, eV5]
      clear eV0 eV1 eV2 eV3 eV4 eV6 eV5 hV0 hV1 hV3
      have g0 := y4_6.free 0
      have g1 := y4_6.free 1
      have g2 := y4_6.c0
      have g3 := y4_6.c1
      refine wpTill.next 7 rfl (by kernel_rfl) (by rfl) (fun K hK => ?_)
      go_simp
      refine hK _ _ (no_wait (by kernel_rfl)) ?_
      clear hK K
      refine wpTill.next 8 rfl (by kernel_rfl) (by rfl) (fun K hK => ?_)
      go_simp
      refine hK _ _ (no_wait (by kernel_rfl)) ?_
      clear hK K
      refine wpTill.done (by kernel_rfl) ?_
      have F9 := fr_put2 u b4_6 (.slice A4_2 n4_2 c4_2) (.slice B4_2 m4_2 k4_2)
      have G9 := G.comp F9 (R := fun k => k < U3.heap.size) fun k _ hk => ⟨hk, by omega⟩
      have z4 := y4_6.set2 (.slice A4_2 n4_2 c4_2) (.slice B4_2 m4_2 k4_2)
      have T4 := (hV2.now.out.fill (.slice A4_2 n4_2 c4_2) (.slice B4_2 m4_2 k4_2) y4_6).hold
      replace xa := xa.keep G9
      replace z2 := z2.keep G9
      replace z3 := z3.keep G9
      replace HA := HA.keep G9
      replace T2 := T2.keep G9
      replace T3 := T3.keep G9
      replace F := fr_then F G9
      generalize (u.setCell ⟨b4_6, 0, none⟩ (.slice A4_2 n4_2 c4_2)).setCell ⟨b4_6, 1, none⟩ (.slice B4_2 m4_2 k4_2) = U4 at z4 T4 xa z2 z3 HA T2 T3 F ⊢
      clear g0 g1 g2 g3 F9 G9 G y4_6 l4_6 hV2
      repeat' ((fail_if_success (with_reducible refine wpTill.row (fun _ => True) 0 ?_ ?_)); go_step)
      refine wpTill.row (fun _ => True) 6 (by kernel_rfl) ?_
      change wpTill _ _ _ _ _ _ 8 _ _ _
      refine wpTill.free (jj := 6) (m := 2) [(0, Fact.eq (.agg #[.slice A sha.length c, .slice A' ea.length c'])),
      (1, Fact.held (Tup (0) (TC 0 sha (ea.map fun x => canR (-(qOf x)))))),
      (2, Fact.same 1),
      (3, Fact.fst 2),
      (5, Fact.mem (New2 U4.heap.size 26 (.slice none 0 0) (.slice none 0 0)) New2.keep)] [(4, Fact.snd 2)] [0, 1, 3, 7, 7, 0, 47, 127] [] ?_ (by kernel_rfl) (by kernel_rfl) (by kernel_rfl) [(0, some 41), (1, some 42), (2, some 40), (3, some 43), (5, some 9), (4, some 44)] (by kernel_rfl) ?hA42 ?hQ42 (fun _ _ => trivial) (by kernel_rfl) ?steps42 ?looses42 ?cont42
      case hQ42 => exact fun _ _ _ _ _ h => h
      case hA42 =>
        intro vs
        simp only [fillD, List.foldl_cons, List.foldl_nil, Act.put, List.setIfInBounds_toArray, List.set_cons_zero, List.set_cons_succ]
        exact rfl
      case steps42 =>
        refine ⟨?_, ?_, ?_, ?_, ?_, trivial⟩
        · rintro vs u ⟨hV0, hV1, hV2, hV3, hV5, hV4, -⟩ G
          have o0 := (xa.keep G).c0
          have o1 := (xa.keep G).c1
          exact stepAt.pure (v := .agg #[.slice A sha.length c, .slice A' ea.length c']) rfl rfl (by go_simp) rfl
        · rintro vs u ⟨hV0, hV1, hV2, hV3, hV5, hV4, -⟩ G
          refine stepAt.call (f := 19) (args := #[vs 0]) rfl rfl (by go_simp) ?_
          have eV0 : vs 0 = .agg #[.slice A sha.length c, .slice A' ea.length c'] := hV0 rfl
          rw [eV0]
          exact neg_u (HA.at G) FA HR
        · rintro vs u ⟨hV0, hV1, hV2, hV3, hV5, hV4, -⟩ G
          exact stepAt.pure (v := vs 1) rfl rfl (by go_simp) rfl
        · rintro vs u ⟨hV0, hV1, hV2, hV3, hV5, hV4, -⟩ G
          have HV1 : Hold (fun u' => (Tup (0) (TC 0 sha (ea.map fun x => canR (-(qOf x))))) u' (vs 1)) u := hV1 rfl
          obtain ⟨A5_1, n5_1, c5_1, B5_1, m5_1, k5_1, eV1, -⟩ := HV1.now
          rw [eV1] at HV1
          have eV2 : vs 2 = .tuple #[.agg #[.slice A5_1 n5_1 c5_1, .slice B5_1 m5_1 k5_1], .int .i64 0] := (show vs 2 = vs 1 from hV2 rfl).trans eV1
          exact stepAt.pure (v := .agg #[.slice A5_1 n5_1 c5_1, .slice B5_1 m5_1 k5_1]) rfl rfl (by simp only [eV2]; go_simp) ⟨_, _, eV2, rfl⟩
        · rintro vs u ⟨hV0, hV1, hV2, hV3, hV5, hV4, -⟩ G
          exact stepAt.value (v := .pointer (some ⟨u.heap.size, 0, none⟩)) (u := u.alloc (.cells #[.slice none 0 0, .slice none 0 0] 26)) rfl rfl (by go_simp) ((Fr.refl _ _).alloc _) ⟨_, rfl, G.size, Box2.new _ _ _ _⟩
      case looses42 =>
        refine ⟨?_, trivial⟩
        · rintro vs u ⟨hV0, hV1, hV2, hV3, hV5, hV4, -⟩ G
          have HV1 : Hold (fun u' => (Tup (0) (TC 0 sha (ea.map fun x => canR (-(qOf x))))) u' (vs 1)) u := hV1 rfl
          obtain ⟨A5_1, n5_1, c5_1, B5_1, m5_1, k5_1, eV1, -⟩ := HV1.now
          rw [eV1] at HV1
          have eV2 : vs 2 = .tuple #[.agg #[.slice A5_1 n5_1 c5_1, .slice B5_1 m5_1 k5_1], .int .i64 0] := (show vs 2 = vs 1 from hV2 rfl).trans eV1
          exact pureAt.of (v := .int .i64 0) rfl rfl (fun _ => by simp only [eV2]; go_simp) ⟨_, _, eV2, rfl⟩
      rintro vs u ⟨hV0, hV1, hV2, hV3, hV5, hV4, -⟩ G
      have eV0 : vs 0 = .agg #[.slice A sha.length c, .slice A' ea.length c'] := hV0
      replace hV1 : Hold (fun u' => (Tup (0) (TC 0 sha (ea.map fun x => canR (-(qOf x))))) u' (vs 1)) u := hV1
      obtain ⟨A5_1, n5_1, c5_1, B5_1, m5_1, k5_1, eV1, -⟩ := hV1.now
      rw [eV1] at hV1
      have eV2 : vs 2 = _ := (show vs 2 = vs 1 from hV2).trans eV1
      obtain ⟨x3, z3, a3, eV3⟩ := hV3
      have a3 := eV2.symm.trans a3
      cases a3
      replace eV3 : vs 3 = _ := eV3
      obtain ⟨b5_5, eV5, l5_5, y5_5⟩ := hV5
      replace eV5 : vs 5 = _ := eV5
      obtain ⟨x4, z4, a4, eV4⟩ := hV4
      have a4 := eV2.symm.trans a4
      cases a4
      replace eV4 : vs 4 = _ := eV4
      simp only [eV0, eV1, eV2, eV3, eV5, eV4]
      clear eV0 eV1 eV2 eV3 eV5 eV4 hV0 hV2
      have g0 := y5_5.free 0
      have g1 := y5_5.free 1
      have g2 := y5_5.c0
      have g3 := y5_5.c1
      refine wpTill.next 6 rfl (by kernel_rfl) (by rfl) (fun K hK => ?_)
      go_simp
      refine hK _ _ (no_wait (by kernel_rfl)) ?_
      clear hK K
      refine wpTill.next 7 rfl (by kernel_rfl) (by rfl) (fun K hK => ?_)
      go_simp
      refine hK _ _ (no_wait (by kernel_rfl)) ?_
      clear hK K
      refine wpTill.done (by kernel_rfl) ?_
      have F9 := fr_put2 u b5_5 (.slice A5_1 n5_1 c5_1) (.slice B5_1 m5_1 k5_1)
      have G9 := G.comp F9 (R := fun k => k < U4.heap.size) fun k _ hk => ⟨hk, by omega⟩
      have z5 := y5_5.set2 (.slice A5_1 n5_1 c5_1) (.slice B5_1 m5_1 k5_1)
      have T5 := (hV1.now.out.fill (.slice A5_1 n5_1 c5_1) (.slice B5_1 m5_1 k5_1) y5_5).hold
      replace xa := xa.keep G9
      replace z2 := z2.keep G9
      replace z3 := z3.keep G9
      replace z4 := z4.keep G9
      replace HA := HA.keep G9
      replace T2 := T2.keep G9
      replace T3 := T3.keep G9
      replace T4 := T4.keep G9
      replace F := fr_then F G9
      generalize (u.setCell ⟨b5_5, 0, none⟩ (.slice A5_1 n5_1 c5_1)).setCell ⟨b5_5, 1, none⟩ (.slice B5_1 m5_1 k5_1) = U5 at z5 T5 xa z2 z3 z4 HA T2 T3 T4 F ⊢
      clear g0 g1 g2 g3 F9 G9 G y5_5 l5_5 hV1
      repeat' ((fail_if_success (with_reducible refine wpTill.row (fun _ => True) 0 ?_ ?_)); go_step)
      refine wpTill.row (fun _ => True) 6 (by kernel_rfl) ?_
      change wpTill _ _ _ _ _ _ 8 _ _ _
      refine wpTill.free (jj := 6) (m := 2) [(0, Fact.eq (.agg #[.slice A5_1 n5_1 c5_1, .slice B5_1 m5_1 k5_1])),
      (1, Fact.held (Tup (0) (TC 0 sha ((ea.map fun x => canR (-(qOf x))).map fun x => canR (rluQ (qOf x)))))),
      (2, Fact.same 1),
      (3, Fact.fst 2),
      (5, Fact.mem (New2 U5.heap.size 26 (.slice none 0 0) (.slice none 0 0)) New2.keep)] [(4, Fact.snd 2)] [0, 1, 3, 7, 7, 0, 47, 127] [] ?_ (by kernel_rfl) (by kernel_rfl) (by kernel_rfl) [(0, some 46), (1, some 47), (2, some 45), (3, some 48), (5, some 11), (4, some 49)] (by kernel_rfl) ?hA43 ?hQ43 (fun _ _ => trivial) (by kernel_rfl) ?steps43 ?looses43 ?cont43
      case hQ43 => exact fun _ _ _ _ _ h => h
      case hA43 =>
        intro vs
        simp only [fillD, List.foldl_cons, List.foldl_nil, Act.put, List.setIfInBounds_toArray, List.set_cons_zero, List.set_cons_succ]
        exact rfl
      case steps43 =>
        refine ⟨?_, ?_, ?_, ?_, ?_, trivial⟩
        · rintro vs u ⟨hV0, hV1, hV2, hV3, hV5, hV4, -⟩ G
          have o0 := (z5.keep G).c0
          have o1 := (z5.keep G).c1
          exact stepAt.pure (v := .agg #[.slice A5_1 n5_1 c5_1, .slice B5_1 m5_1 k5_1]) rfl rfl (by go_simp) rfl
        · rintro vs u ⟨hV0, hV1, hV2, hV3, hV5, hV4, -⟩ G
          refine stepAt.call (f := 20) (args := #[vs 0]) rfl rfl (by go_simp) ?_
          have eV0 : vs 0 = .agg #[.slice A5_1 n5_1 c5_1, .slice B5_1 m5_1 k5_1] := hV0 rfl
          rw [eV0]
          exact relu_u ((T5.at G)).tv FNG HM3
        · rintro vs u ⟨hV0, hV1, hV2, hV3, hV5, hV4, -⟩ G
          exact stepAt.pure (v := vs 1) rfl rfl (by go_simp) rfl
        · rintro vs u ⟨hV0, hV1, hV2, hV3, hV5, hV4, -⟩ G
          have HV1 : Hold (fun u' => (Tup (0) (TC 0 sha ((ea.map fun x => canR (-(qOf x))).map fun x => canR (rluQ (qOf x))))) u' (vs 1)) u := hV1 rfl
          obtain ⟨A6_1, n6_1, c6_1, B6_1, m6_1, k6_1, eV1, -⟩ := HV1.now
          rw [eV1] at HV1
          have eV2 : vs 2 = .tuple #[.agg #[.slice A6_1 n6_1 c6_1, .slice B6_1 m6_1 k6_1], .int .i64 0] := (show vs 2 = vs 1 from hV2 rfl).trans eV1
          exact stepAt.pure (v := .agg #[.slice A6_1 n6_1 c6_1, .slice B6_1 m6_1 k6_1]) rfl rfl (by simp only [eV2]; go_simp) ⟨_, _, eV2, rfl⟩
        · rintro vs u ⟨hV0, hV1, hV2, hV3, hV5, hV4, -⟩ G
          exact stepAt.value (v := .pointer (some ⟨u.heap.size, 0, none⟩)) (u := u.alloc (.cells #[.slice none 0 0, .slice none 0 0] 26)) rfl rfl (by go_simp) ((Fr.refl _ _).alloc _) ⟨_, rfl, G.size, Box2.new _ _ _ _⟩
      case looses43 =>
        refine ⟨?_, trivial⟩
        · rintro vs u ⟨hV0, hV1, hV2, hV3, hV5, hV4, -⟩ G
          have HV1 : Hold (fun u' => (Tup (0) (TC 0 sha ((ea.map fun x => canR (-(qOf x))).map fun x => canR (rluQ (qOf x))))) u' (vs 1)) u := hV1 rfl
          obtain ⟨A6_1, n6_1, c6_1, B6_1, m6_1, k6_1, eV1, -⟩ := HV1.now
          rw [eV1] at HV1
          have eV2 : vs 2 = .tuple #[.agg #[.slice A6_1 n6_1 c6_1, .slice B6_1 m6_1 k6_1], .int .i64 0] := (show vs 2 = vs 1 from hV2 rfl).trans eV1
          exact pureAt.of (v := .int .i64 0) rfl rfl (fun _ => by simp only [eV2]; go_simp) ⟨_, _, eV2, rfl⟩
      rintro vs u ⟨hV0, hV1, hV2, hV3, hV5, hV4, -⟩ G
      have eV0 : vs 0 = .agg #[.slice A5_1 n5_1 c5_1, .slice B5_1 m5_1 k5_1] := hV0
      replace hV1 : Hold (fun u' => (Tup (0) (TC 0 sha ((ea.map fun x => canR (-(qOf x))).map fun x => canR (rluQ (qOf x))))) u' (vs 1)) u := hV1
      obtain ⟨A6_1, n6_1, c6_1, B6_1, m6_1, k6_1, eV1, -⟩ := hV1.now
      rw [eV1] at hV1
      have eV2 : vs 2 = _ := (show vs 2 = vs 1 from hV2).trans eV1
      obtain ⟨x3, z3, a3, eV3⟩ := hV3
      have a3 := eV2.symm.trans a3
      cases a3
      replace eV3 : vs 3 = _ := eV3
      obtain ⟨b6_5, eV5, l6_5, y6_5⟩ := hV5
      replace eV5 : vs 5 = _ := eV5
      obtain ⟨x4, z4, a4, eV4⟩ := hV4
      have a4 := eV2.symm.trans a4
      cases a4
      replace eV4 : vs 4 = _ := eV4
      simp only [eV0, eV1, eV2, eV3, eV5, eV4]
      clear eV0 eV1 eV2 eV3 eV5 eV4 hV0 hV2
      have g0 := y6_5.free 0
      have g1 := y6_5.free 1
      have g2 := y6_5.c0
      have g3 := y6_5.c1
      refine wpTill.next 6 rfl (by kernel_rfl) (by rfl) (fun K hK => ?_)
      go_simp
      refine hK _ _ (no_wait (by kernel_rfl)) ?_
      clear hK K
      refine wpTill.next 7 rfl (by kernel_rfl) (by rfl) (fun K hK => ?_)
      go_simp
      refine hK _ _ (no_wait (by kernel_rfl)) ?_
      clear hK K
      refine wpTill.done (by kernel_rfl) ?_
      have F9 := fr_put2 u b6_5 (.slice A6_1 n6_1 c6_1) (.slice B6_1 m6_1 k6_1)
      have G9 := G.comp F9 (R := fun k => k < U5.heap.size) fun k _ hk => ⟨hk, by omega⟩
      have z6 := y6_5.set2 (.slice A6_1 n6_1 c6_1) (.slice B6_1 m6_1 k6_1)
      have T6 := (hV1.now.out.fill (.slice A6_1 n6_1 c6_1) (.slice B6_1 m6_1 k6_1) y6_5).hold
      replace xa := xa.keep G9
      replace z2 := z2.keep G9
      replace z3 := z3.keep G9
      replace z4 := z4.keep G9
      replace z5 := z5.keep G9
      replace HA := HA.keep G9
      replace T2 := T2.keep G9
      replace T3 := T3.keep G9
      replace T4 := T4.keep G9
      replace T5 := T5.keep G9
      replace F := fr_then F G9
      generalize (u.setCell ⟨b6_5, 0, none⟩ (.slice A6_1 n6_1 c6_1)).setCell ⟨b6_5, 1, none⟩ (.slice B6_1 m6_1 k6_1) = U6 at z6 T6 xa z2 z3 z4 z5 HA T2 T3 T4 T5 F ⊢
      clear g0 g1 g2 g3 F9 G9 G y6_5 l6_5 hV1
      repeat' ((fail_if_success (with_reducible refine wpTill.row (fun _ => True) 0 ?_ ?_)); go_step)
      refine wpTill.row (fun _ => True) 7 (by kernel_rfl) ?_
      change wpTill _ _ _ _ _ _ 9 _ _ _
      refine wpTill.free (jj := 7) (m := 2) [(0, Fact.eq (.agg #[.slice A2_1 n2_1 c2_1, .slice B2_1 m2_1 k2_1])),
      (1, Fact.eq (.agg #[.slice A6_1 n6_1 c6_1, .slice B6_1 m6_1 k6_1])),
      (2, Fact.held (Tup (0) (TC 0 sha ((List.range (ea.map fun x => canR (rluQ (qOf x))).length).map (zipG subG (ea.map fun x => canR (rluQ (qOf x))) ((ea.map fun x => canR (-(qOf x))).map fun x => canR (rluQ (qOf x)))))))),
      (3, Fact.same 2),
      (4, Fact.fst 3),
      (6, Fact.mem (New2 U6.heap.size 26 (.slice none 0 0) (.slice none 0 0)) New2.keep)] [(5, Fact.snd 3)] [0, 0, 3, 7, 15, 15, 0, 95, 255] [] ?_ (by kernel_rfl) (by kernel_rfl) (by kernel_rfl) [(0, some 51), (1, some 52), (2, some 53), (3, some 50), (4, some 54), (6, some 13), (5, some 55)] (by kernel_rfl) ?hA44 ?hQ44 (fun _ _ => trivial) (by kernel_rfl) ?steps44 ?looses44 ?cont44
      case hQ44 => exact fun _ _ _ _ _ h => h
      case hA44 =>
        intro vs
        simp only [fillD, List.foldl_cons, List.foldl_nil, Act.put, List.setIfInBounds_toArray, List.set_cons_zero, List.set_cons_succ]
        exact rfl
      case steps44 =>
        refine ⟨?_, ?_, ?_, ?_, ?_, ?_, trivial⟩
        · rintro vs u ⟨hV0, hV1, hV2, hV3, hV4, hV6, hV5, -⟩ G
          have o0 := (z2.keep G).c0
          have o1 := (z2.keep G).c1
          exact stepAt.pure (v := .agg #[.slice A2_1 n2_1 c2_1, .slice B2_1 m2_1 k2_1]) rfl rfl (by go_simp) rfl
        · rintro vs u ⟨hV0, hV1, hV2, hV3, hV4, hV6, hV5, -⟩ G
          have o0 := (z6.keep G).c0
          have o1 := (z6.keep G).c1
          exact stepAt.pure (v := .agg #[.slice A6_1 n6_1 c6_1, .slice B6_1 m6_1 k6_1]) rfl rfl (by go_simp) rfl
        · rintro vs u ⟨hV0, hV1, hV2, hV3, hV4, hV6, hV5, -⟩ G
          refine stepAt.call (f := 26) (args := #[vs 0, vs 1]) rfl rfl (by go_simp) ?_
          have eV0 : vs 0 = .agg #[.slice A2_1 n2_1 c2_1, .slice B2_1 m2_1 k2_1] := hV0 rfl
          have eV1 : vs 1 = .agg #[.slice A6_1 n6_1 c6_1, .slice B6_1 m6_1 k6_1] := hV1 rfl
          rw [eV0, eV1]
          exact sub_u ((T2.at G)).tv ((T6.at G)).tv FRL FRN HM2
        · rintro vs u ⟨hV0, hV1, hV2, hV3, hV4, hV6, hV5, -⟩ G
          exact stepAt.pure (v := vs 2) rfl rfl (by go_simp) rfl
        · rintro vs u ⟨hV0, hV1, hV2, hV3, hV4, hV6, hV5, -⟩ G
          have HV2 : Hold (fun u' => (Tup (0) (TC 0 sha ((List.range (ea.map fun x => canR (rluQ (qOf x))).length).map (zipG subG (ea.map fun x => canR (rluQ (qOf x))) ((ea.map fun x => canR (-(qOf x))).map fun x => canR (rluQ (qOf x))))))) u' (vs 2)) u := hV2 rfl
          obtain ⟨A7_2, n7_2, c7_2, B7_2, m7_2, k7_2, eV2, -⟩ := HV2.now
          rw [eV2] at HV2
          have eV3 : vs 3 = .tuple #[.agg #[.slice A7_2 n7_2 c7_2, .slice B7_2 m7_2 k7_2], .int .i64 0] := (show vs 3 = vs 2 from hV3 rfl).trans eV2
          exact stepAt.pure (v := .agg #[.slice A7_2 n7_2 c7_2, .slice B7_2 m7_2 k7_2]) rfl rfl (by simp only [eV3]; go_simp) ⟨_, _, eV3, rfl⟩
        · rintro vs u ⟨hV0, hV1, hV2, hV3, hV4, hV6, hV5, -⟩ G
          exact stepAt.value (v := .pointer (some ⟨u.heap.size, 0, none⟩)) (u := u.alloc (.cells #[.slice none 0 0, .slice none 0 0] 26)) rfl rfl (by go_simp) ((Fr.refl _ _).alloc _) ⟨_, rfl, G.size, Box2.new _ _ _ _⟩
      case looses44 =>
        refine ⟨?_, trivial⟩
        · rintro vs u ⟨hV0, hV1, hV2, hV3, hV4, hV6, hV5, -⟩ G
          have HV2 : Hold (fun u' => (Tup (0) (TC 0 sha ((List.range (ea.map fun x => canR (rluQ (qOf x))).length).map (zipG subG (ea.map fun x => canR (rluQ (qOf x))) ((ea.map fun x => canR (-(qOf x))).map fun x => canR (rluQ (qOf x))))))) u' (vs 2)) u := hV2 rfl
          obtain ⟨A7_2, n7_2, c7_2, B7_2, m7_2, k7_2, eV2, -⟩ := HV2.now
          rw [eV2] at HV2
          have eV3 : vs 3 = .tuple #[.agg #[.slice A7_2 n7_2 c7_2, .slice B7_2 m7_2 k7_2], .int .i64 0] := (show vs 3 = vs 2 from hV3 rfl).trans eV2
          exact pureAt.of (v := .int .i64 0) rfl rfl (fun _ => by simp only [eV3]; go_simp) ⟨_, _, eV3, rfl⟩
      rintro vs u ⟨hV0, hV1, hV2, hV3, hV4, hV6, hV5, -⟩ G
      have eV0 : vs 0 = .agg #[.slice A2_1 n2_1 c2_1, .slice B2_1 m2_1 k2_1] := hV0
      have eV1 : vs 1 = .agg #[.slice A6_1 n6_1 c6_1, .slice B6_1 m6_1 k6_1] := hV1
      replace hV2 : Hold (fun u' => (Tup (0) (TC 0 sha ((List.range (ea.map fun x => canR (rluQ (qOf x))).length).map (zipG subG (ea.map fun x => canR (rluQ (qOf x))) ((ea.map fun x => canR (-(qOf x))).map fun x => canR (rluQ (qOf x))))))) u' (vs 2)) u := hV2
      obtain ⟨A7_2, n7_2, c7_2, B7_2, m7_2, k7_2, eV2, -⟩ := hV2.now
      rw [eV2] at hV2
      have eV3 : vs 3 = _ := (show vs 3 = vs 2 from hV3).trans eV2
      obtain ⟨x4, z4, a4, eV4⟩ := hV4
      have a4 := eV3.symm.trans a4
      cases a4
      replace eV4 : vs 4 = _ := eV4
      obtain ⟨b7_6, eV6, l7_6, y7_6⟩ := hV6
      replace eV6 : vs 6 = _ := eV6
      obtain ⟨x5, z5, a5, eV5⟩ := hV5
      have a5 := eV3.symm.trans a5
      cases a5
      replace eV5 : vs 5 = _ := eV5
      simp only [eV0, eV1, eV2, eV3, eV4, eV6, eV5]
      clear eV0 eV1 eV2 eV3 eV4 eV6 eV5 hV0 hV1 hV3
      have g0 := y7_6.free 0
      have g1 := y7_6.free 1
      have g2 := y7_6.c0
      have g3 := y7_6.c1
      refine wpTill.next 7 rfl (by kernel_rfl) (by rfl) (fun K hK => ?_)
      go_simp
      refine hK _ _ (no_wait (by kernel_rfl)) ?_
      clear hK K
      refine wpTill.next 8 rfl (by kernel_rfl) (by rfl) (fun K hK => ?_)
      go_simp
      refine hK _ _ (no_wait (by kernel_rfl)) ?_
      clear hK K
      refine wpTill.done (by kernel_rfl) ?_
      have F9 := fr_put2 u b7_6 (.slice A7_2 n7_2 c7_2) (.slice B7_2 m7_2 k7_2)
      have G9 := G.comp F9 (R := fun k => k < U6.heap.size) fun k _ hk => ⟨hk, by omega⟩
      have z7 := y7_6.set2 (.slice A7_2 n7_2 c7_2) (.slice B7_2 m7_2 k7_2)
      have T7 := (hV2.now.out.fill (.slice A7_2 n7_2 c7_2) (.slice B7_2 m7_2 k7_2) y7_6).hold
      replace xa := xa.keep G9
      replace z2 := z2.keep G9
      replace z3 := z3.keep G9
      replace z4 := z4.keep G9
      replace z5 := z5.keep G9
      replace z6 := z6.keep G9
      replace HA := HA.keep G9
      replace T2 := T2.keep G9
      replace T3 := T3.keep G9
      replace T4 := T4.keep G9
      replace T5 := T5.keep G9
      replace T6 := T6.keep G9
      replace F := fr_then F G9
      generalize (u.setCell ⟨b7_6, 0, none⟩ (.slice A7_2 n7_2 c7_2)).setCell ⟨b7_6, 1, none⟩ (.slice B7_2 m7_2 k7_2) = U7 at z7 T7 xa z2 z3 z4 z5 z6 HA T2 T3 T4 T5 T6 F ⊢
      clear g0 g1 g2 g3 F9 G9 G y7_6 l7_6 hV2
      repeat' ((fail_if_success (with_reducible refine wpTill.row (fun _ => True) 0 ?_ ?_)); go_step)
      refine wpTill.row (fun _ => True) 35 (by kernel_rfl) ?_
      change wpTill _ _ _ _ _ _ 36 _ _ _
      refine wpTill.free (jj := 35) (m := 1) [(0, Fact.eq (.int .i64 0)),
      (1, Fact.eq (.bool true)),
      (2, Fact.eq (.bool true)),
      (3, Fact.eq (.int .i64 0)),
      (4, Fact.eq (.bool true)),
      (5, Fact.eq (.bool true)),
      (6, Fact.eq (.bool true)),
      (7, Fact.eq (.int .i64 0)),
      (8, Fact.eq (.bool true)),
      (9, Fact.eq (.bool true)),
      (10, Fact.eq (.bool true)),
      (11, Fact.eq (.int .i64 0)),
      (12, Fact.eq (.bool true)),
      (13, Fact.eq (.bool true)),
      (14, Fact.eq (.bool true)),
      (15, Fact.eq (.int .i64 0)),
      (16, Fact.eq (.bool true)),
      (17, Fact.eq (.bool true)),
      (18, Fact.eq (.bool true)),
      (19, Fact.eq (.int .i64 0)),
      (20, Fact.eq (.bool true)),
      (21, Fact.eq (.bool true)),
      (22, Fact.eq (.bool true)),
      (23, Fact.eq (.agg #[.slice A2_1 n2_1 c2_1, .slice B2_1 m2_1 k2_1])),
      (24, Fact.eq (.agg #[.slice A4_2 n4_2 c4_2, .slice B4_2 m4_2 k4_2])),
      (25, Fact.eq (.bool true)),
      (26, Fact.eq (.bool true)),
      (27, Fact.eq (.bool true)),
      (28, Fact.eq (.agg #[.slice A7_2 n7_2 c7_2, .slice B7_2 m7_2 k7_2])),
      (29, Fact.eq (.agg #[.slice A sha.length c, .slice A' ea.length c'])),
      (30, Fact.eq (.bool true)),
      (31, Fact.eq (.bool true)),
      (32, Fact.eq (.bool true)),
      (33, Fact.eq (.bool true)),
      (34, Fact.eq (.bool true))] [] [0, 1, 3, 7, 15, 31, 63, 127, 255, 511, 1023, 2047, 4095, 8191, 16383, 32767, 65535, 131071, 262143, 524287, 1048575, 2097151, 4194303, 8388607, 8388607, 33554431, 67108863, 134217727, 268435455, 268435455, 1073741823, 2147483647, 4294967295, 8589934591, 17179869183, 34359738367] [] ?_ (by kernel_rfl) (by kernel_rfl) (by kernel_rfl) [(0, some 56), (1, some 57), (2, some 58), (3, some 59), (4, some 60), (5, some 61), (6, some 62), (7, some 63), (8, some 64), (9, some 65), (10, some 66), (11, some 67), (12, some 68), (13, some 69), (14, some 70), (15, some 71), (16, some 72), (17, some 73), (18, some 74), (19, some 75), (20, some 76), (21, some 77), (22, some 78), (23, some 79), (24, some 80), (25, some 81), (26, some 82), (27, some 83), (28, some 84), (29, some 85), (30, some 86), (31, some 87), (32, some 88), (33, some 89), (34, some 90)] (by kernel_rfl) ?hA45 ?hQ45 (fun _ _ => trivial) (by kernel_rfl) ?steps45 ?looses45 ?cont45
      case hQ45 => exact fun _ _ _ _ _ h => h
      case hA45 =>
        intro vs
        simp only [fillD, List.foldl_cons, List.foldl_nil, Act.put, List.setIfInBounds_toArray, List.set_cons_zero, List.set_cons_succ]
        exact rfl
      case steps45 =>
        refine ⟨?_, ?_, ?_, ?_, ?_, ?_, ?_, ?_, ?_, ?_, ?_, ?_, ?_, ?_, ?_, ?_, ?_, ?_, ?_, ?_, ?_, ?_, ?_, ?_, ?_, ?_, ?_, ?_, ?_, ?_, ?_, ?_, ?_, ?_, ?_, trivial⟩
        · rintro vs u ⟨hV0, hV1, hV2, hV3, hV4, hV5, hV6, hV7, hV8, hV9, hV10, hV11, hV12, hV13, hV14, hV15, hV16, hV17, hV18, hV19, hV20, hV21, hV22, hV23, hV24, hV25, hV26, hV27, hV28, hV29, hV30, hV31, hV32, hV33, hV34, -⟩ G
          exact stepAt.pure (v := .int .i64 0) rfl rfl (by go_simp) rfl
        · rintro vs u ⟨hV0, hV1, hV2, hV3, hV4, hV5, hV6, hV7, hV8, hV9, hV10, hV11, hV12, hV13, hV14, hV15, hV16, hV17, hV18, hV19, hV20, hV21, hV22, hV23, hV24, hV25, hV26, hV27, hV28, hV29, hV30, hV31, hV32, hV33, hV34, -⟩ G
          have eV0 : vs 0 = .int .i64 0 := hV0 rfl
          exact stepAt.pure (v := .bool true) rfl rfl (by simp only [eV0]; go_simp <;> omega) rfl
        · rintro vs u ⟨hV0, hV1, hV2, hV3, hV4, hV5, hV6, hV7, hV8, hV9, hV10, hV11, hV12, hV13, hV14, hV15, hV16, hV17, hV18, hV19, hV20, hV21, hV22, hV23, hV24, hV25, hV26, hV27, hV28, hV29, hV30, hV31, hV32, hV33, hV34, -⟩ G
          have eV1 : vs 1 = .bool true := hV1 rfl
          exact stepAt.pure (v := .bool true) rfl rfl (by simp only [eV1]; go_simp) rfl
        · rintro vs u ⟨hV0, hV1, hV2, hV3, hV4, hV5, hV6, hV7, hV8, hV9, hV10, hV11, hV12, hV13, hV14, hV15, hV16, hV17, hV18, hV19, hV20, hV21, hV22, hV23, hV24, hV25, hV26, hV27, hV28, hV29, hV30, hV31, hV32, hV33, hV34, -⟩ G
          exact stepAt.pure (v := .int .i64 0) rfl (wanted_by (g := 2) (b := true) (t := 58) rfl (by kernel_rfl) (congrArg some (show vs 2 = _ from hV2 rfl))) (by go_simp) rfl
        · rintro vs u ⟨hV0, hV1, hV2, hV3, hV4, hV5, hV6, hV7, hV8, hV9, hV10, hV11, hV12, hV13, hV14, hV15, hV16, hV17, hV18, hV19, hV20, hV21, hV22, hV23, hV24, hV25, hV26, hV27, hV28, hV29, hV30, hV31, hV32, hV33, hV34, -⟩ G
          have eV3 : vs 3 = .int .i64 0 := hV3 rfl
          exact stepAt.pure (v := .bool true) rfl (wanted_by (g := 2) (b := true) (t := 58) rfl (by kernel_rfl) (congrArg some (show vs 2 = _ from hV2 rfl))) (by simp only [eV3]; go_simp <;> omega) rfl
        · rintro vs u ⟨hV0, hV1, hV2, hV3, hV4, hV5, hV6, hV7, hV8, hV9, hV10, hV11, hV12, hV13, hV14, hV15, hV16, hV17, hV18, hV19, hV20, hV21, hV22, hV23, hV24, hV25, hV26, hV27, hV28, hV29, hV30, hV31, hV32, hV33, hV34, -⟩ G
          have eV2 : vs 2 = .bool true := hV2 rfl
          have eV4 : vs 4 = .bool true := hV4 rfl
          exact stepAt.pure (v := .bool true) rfl rfl (by simp only [eV2, eV4]; go_simp) rfl
        · rintro vs u ⟨hV0, hV1, hV2, hV3, hV4, hV5, hV6, hV7, hV8, hV9, hV10, hV11, hV12, hV13, hV14, hV15, hV16, hV17, hV18, hV19, hV20, hV21, hV22, hV23, hV24, hV25, hV26, hV27, hV28, hV29, hV30, hV31, hV32, hV33, hV34, -⟩ G
          have eV5 : vs 5 = .bool true := hV5 rfl
          exact stepAt.pure (v := .bool true) rfl rfl (by simp only [eV5]; go_simp) rfl
        · rintro vs u ⟨hV0, hV1, hV2, hV3, hV4, hV5, hV6, hV7, hV8, hV9, hV10, hV11, hV12, hV13, hV14, hV15, hV16, hV17, hV18, hV19, hV20, hV21, hV22, hV23, hV24, hV25, hV26, hV27, hV28, hV29, hV30, hV31, hV32, hV33, hV34, -⟩ G
          exact stepAt.pure (v := .int .i64 0) rfl (wanted_by (g := 6) (b := true) (t := 62) rfl (by kernel_rfl) (congrArg some (show vs 6 = _ from hV6 rfl))) (by go_simp) rfl
        · rintro vs u ⟨hV0, hV1, hV2, hV3, hV4, hV5, hV6, hV7, hV8, hV9, hV10, hV11, hV12, hV13, hV14, hV15, hV16, hV17, hV18, hV19, hV20, hV21, hV22, hV23, hV24, hV25, hV26, hV27, hV28, hV29, hV30, hV31, hV32, hV33, hV34, -⟩ G
          have eV7 : vs 7 = .int .i64 0 := hV7 rfl
          exact stepAt.pure (v := .bool true) rfl (wanted_by (g := 6) (b := true) (t := 62) rfl (by kernel_rfl) (congrArg some (show vs 6 = _ from hV6 rfl))) (by simp only [eV7]; go_simp <;> omega) rfl
        · rintro vs u ⟨hV0, hV1, hV2, hV3, hV4, hV5, hV6, hV7, hV8, hV9, hV10, hV11, hV12, hV13, hV14, hV15, hV16, hV17, hV18, hV19, hV20, hV21, hV22, hV23, hV24, hV25, hV26, hV27, hV28, hV29, hV30, hV31, hV32, hV33, hV34, -⟩ G
          have eV6 : vs 6 = .bool true := hV6 rfl
          have eV8 : vs 8 = .bool true := hV8 rfl
          exact stepAt.pure (v := .bool true) rfl rfl (by simp only [eV6, eV8]; go_simp) rfl
        · rintro vs u ⟨hV0, hV1, hV2, hV3, hV4, hV5, hV6, hV7, hV8, hV9, hV10, hV11, hV12, hV13, hV14, hV15, hV16, hV17, hV18, hV19, hV20, hV21, hV22, hV23, hV24, hV25, hV26, hV27, hV28, hV29, hV30, hV31, hV32, hV33, hV34, -⟩ G
          have eV9 : vs 9 = .bool true := hV9 rfl
          exact stepAt.pure (v := .bool true) rfl rfl (by simp only [eV9]; go_simp) rfl
        · rintro vs u ⟨hV0, hV1, hV2, hV3, hV4, hV5, hV6, hV7, hV8, hV9, hV10, hV11, hV12, hV13, hV14, hV15, hV16, hV17, hV18, hV19, hV20, hV21, hV22, hV23, hV24, hV25, hV26, hV27, hV28, hV29, hV30, hV31, hV32, hV33, hV34, -⟩ G
          exact stepAt.pure (v := .int .i64 0) rfl (wanted_by (g := 10) (b := true) (t := 66) rfl (by kernel_rfl) (congrArg some (show vs 10 = _ from hV10 rfl))) (by go_simp) rfl
        · rintro vs u ⟨hV0, hV1, hV2, hV3, hV4, hV5, hV6, hV7, hV8, hV9, hV10, hV11, hV12, hV13, hV14, hV15, hV16, hV17, hV18, hV19, hV20, hV21, hV22, hV23, hV24, hV25, hV26, hV27, hV28, hV29, hV30, hV31, hV32, hV33, hV34, -⟩ G
          have eV11 : vs 11 = .int .i64 0 := hV11 rfl
          exact stepAt.pure (v := .bool true) rfl (wanted_by (g := 10) (b := true) (t := 66) rfl (by kernel_rfl) (congrArg some (show vs 10 = _ from hV10 rfl))) (by simp only [eV11]; go_simp <;> omega) rfl
        · rintro vs u ⟨hV0, hV1, hV2, hV3, hV4, hV5, hV6, hV7, hV8, hV9, hV10, hV11, hV12, hV13, hV14, hV15, hV16, hV17, hV18, hV19, hV20, hV21, hV22, hV23, hV24, hV25, hV26, hV27, hV28, hV29, hV30, hV31, hV32, hV33, hV34, -⟩ G
          have eV10 : vs 10 = .bool true := hV10 rfl
          have eV12 : vs 12 = .bool true := hV12 rfl
          exact stepAt.pure (v := .bool true) rfl rfl (by simp only [eV10, eV12]; go_simp) rfl
        · rintro vs u ⟨hV0, hV1, hV2, hV3, hV4, hV5, hV6, hV7, hV8, hV9, hV10, hV11, hV12, hV13, hV14, hV15, hV16, hV17, hV18, hV19, hV20, hV21, hV22, hV23, hV24, hV25, hV26, hV27, hV28, hV29, hV30, hV31, hV32, hV33, hV34, -⟩ G
          have eV13 : vs 13 = .bool true := hV13 rfl
          exact stepAt.pure (v := .bool true) rfl rfl (by simp only [eV13]; go_simp) rfl
        · rintro vs u ⟨hV0, hV1, hV2, hV3, hV4, hV5, hV6, hV7, hV8, hV9, hV10, hV11, hV12, hV13, hV14, hV15, hV16, hV17, hV18, hV19, hV20, hV21, hV22, hV23, hV24, hV25, hV26, hV27, hV28, hV29, hV30, hV31, hV32, hV33, hV34, -⟩ G
          exact stepAt.pure (v := .int .i64 0) rfl (wanted_by (g := 14) (b := true) (t := 70) rfl (by kernel_rfl) (congrArg some (show vs 14 = _ from hV14 rfl))) (by go_simp) rfl
        · rintro vs u ⟨hV0, hV1, hV2, hV3, hV4, hV5, hV6, hV7, hV8, hV9, hV10, hV11, hV12, hV13, hV14, hV15, hV16, hV17, hV18, hV19, hV20, hV21, hV22, hV23, hV24, hV25, hV26, hV27, hV28, hV29, hV30, hV31, hV32, hV33, hV34, -⟩ G
          have eV15 : vs 15 = .int .i64 0 := hV15 rfl
          exact stepAt.pure (v := .bool true) rfl (wanted_by (g := 14) (b := true) (t := 70) rfl (by kernel_rfl) (congrArg some (show vs 14 = _ from hV14 rfl))) (by simp only [eV15]; go_simp <;> omega) rfl
        · rintro vs u ⟨hV0, hV1, hV2, hV3, hV4, hV5, hV6, hV7, hV8, hV9, hV10, hV11, hV12, hV13, hV14, hV15, hV16, hV17, hV18, hV19, hV20, hV21, hV22, hV23, hV24, hV25, hV26, hV27, hV28, hV29, hV30, hV31, hV32, hV33, hV34, -⟩ G
          have eV14 : vs 14 = .bool true := hV14 rfl
          have eV16 : vs 16 = .bool true := hV16 rfl
          exact stepAt.pure (v := .bool true) rfl rfl (by simp only [eV14, eV16]; go_simp) rfl
        · rintro vs u ⟨hV0, hV1, hV2, hV3, hV4, hV5, hV6, hV7, hV8, hV9, hV10, hV11, hV12, hV13, hV14, hV15, hV16, hV17, hV18, hV19, hV20, hV21, hV22, hV23, hV24, hV25, hV26, hV27, hV28, hV29, hV30, hV31, hV32, hV33, hV34, -⟩ G
          have eV17 : vs 17 = .bool true := hV17 rfl
          exact stepAt.pure (v := .bool true) rfl rfl (by simp only [eV17]; go_simp) rfl
        · rintro vs u ⟨hV0, hV1, hV2, hV3, hV4, hV5, hV6, hV7, hV8, hV9, hV10, hV11, hV12, hV13, hV14, hV15, hV16, hV17, hV18, hV19, hV20, hV21, hV22, hV23, hV24, hV25, hV26, hV27, hV28, hV29, hV30, hV31, hV32, hV33, hV34, -⟩ G
          exact stepAt.pure (v := .int .i64 0) rfl (wanted_by (g := 18) (b := true) (t := 74) rfl (by kernel_rfl) (congrArg some (show vs 18 = _ from hV18 rfl))) (by go_simp) rfl
        · rintro vs u ⟨hV0, hV1, hV2, hV3, hV4, hV5, hV6, hV7, hV8, hV9, hV10, hV11, hV12, hV13, hV14, hV15, hV16, hV17, hV18, hV19, hV20, hV21, hV22, hV23, hV24, hV25, hV26, hV27, hV28, hV29, hV30, hV31, hV32, hV33, hV34, -⟩ G
          have eV19 : vs 19 = .int .i64 0 := hV19 rfl
          exact stepAt.pure (v := .bool true) rfl (wanted_by (g := 18) (b := true) (t := 74) rfl (by kernel_rfl) (congrArg some (show vs 18 = _ from hV18 rfl))) (by simp only [eV19]; go_simp <;> omega) rfl
        · rintro vs u ⟨hV0, hV1, hV2, hV3, hV4, hV5, hV6, hV7, hV8, hV9, hV10, hV11, hV12, hV13, hV14, hV15, hV16, hV17, hV18, hV19, hV20, hV21, hV22, hV23, hV24, hV25, hV26, hV27, hV28, hV29, hV30, hV31, hV32, hV33, hV34, -⟩ G
          have eV18 : vs 18 = .bool true := hV18 rfl
          have eV20 : vs 20 = .bool true := hV20 rfl
          exact stepAt.pure (v := .bool true) rfl rfl (by simp only [eV18, eV20]; go_simp) rfl
        · rintro vs u ⟨hV0, hV1, hV2, hV3, hV4, hV5, hV6, hV7, hV8, hV9, hV10, hV11, hV12, hV13, hV14, hV15, hV16, hV17, hV18, hV19, hV20, hV21, hV22, hV23, hV24, hV25, hV26, hV27, hV28, hV29, hV30, hV31, hV32, hV33, hV34, -⟩ G
          have eV21 : vs 21 = .bool true := hV21 rfl
          exact stepAt.pure (v := .bool true) rfl rfl (by simp only [eV21]; go_simp) rfl
        · rintro vs u ⟨hV0, hV1, hV2, hV3, hV4, hV5, hV6, hV7, hV8, hV9, hV10, hV11, hV12, hV13, hV14, hV15, hV16, hV17, hV18, hV19, hV20, hV21, hV22, hV23, hV24, hV25, hV26, hV27, hV28, hV29, hV30, hV31, hV32, hV33, hV34, -⟩ G
          have o0 := (z2.keep G).c0
          have o1 := (z2.keep G).c1
          exact stepAt.pure (v := .agg #[.slice A2_1 n2_1 c2_1, .slice B2_1 m2_1 k2_1]) rfl (wanted_by (g := 22) (b := true) (t := 78) rfl (by kernel_rfl) (congrArg some (show vs 22 = _ from hV22 rfl))) (by go_simp) rfl
        · rintro vs u ⟨hV0, hV1, hV2, hV3, hV4, hV5, hV6, hV7, hV8, hV9, hV10, hV11, hV12, hV13, hV14, hV15, hV16, hV17, hV18, hV19, hV20, hV21, hV22, hV23, hV24, hV25, hV26, hV27, hV28, hV29, hV30, hV31, hV32, hV33, hV34, -⟩ G
          have o0 := (z4.keep G).c0
          have o1 := (z4.keep G).c1
          exact stepAt.pure (v := .agg #[.slice A4_2 n4_2 c4_2, .slice B4_2 m4_2 k4_2]) rfl (wanted_by (g := 22) (b := true) (t := 78) rfl (by kernel_rfl) (congrArg some (show vs 22 = _ from hV22 rfl))) (by go_simp) rfl
        · rintro vs u ⟨hV0, hV1, hV2, hV3, hV4, hV5, hV6, hV7, hV8, hV9, hV10, hV11, hV12, hV13, hV14, hV15, hV16, hV17, hV18, hV19, hV20, hV21, hV22, hV23, hV24, hV25, hV26, hV27, hV28, hV29, hV30, hV31, hV32, hV33, hV34, -⟩ G
          refine stepAt.call (f := 40) (args := #[vs 23, vs 24]) rfl (wanted_by (g := 22) (b := true) (t := 78) rfl (by kernel_rfl) (congrArg some (show vs 22 = _ from hV22 rfl))) (by go_simp) ?_
          have eV23 : vs 23 = .agg #[.slice A2_1 n2_1 c2_1, .slice B2_1 m2_1 k2_1] := hV23 rfl
          have eV24 : vs 24 = .agg #[.slice A4_2 n4_2 c4_2, .slice B4_2 m4_2 k4_2] := hV24 rfl
          rw [eV23, eV24]
          exact (tsame_u ((T2.at G)).tv ((T4.at G)).tv FRL FMU rfl (Lib.hid (relus_1 ea))).mono fun _ _ ⟨v, h1, h2, h3⟩ => ⟨v, h1, h2, h3.now⟩
        · rintro vs u ⟨hV0, hV1, hV2, hV3, hV4, hV5, hV6, hV7, hV8, hV9, hV10, hV11, hV12, hV13, hV14, hV15, hV16, hV17, hV18, hV19, hV20, hV21, hV22, hV23, hV24, hV25, hV26, hV27, hV28, hV29, hV30, hV31, hV32, hV33, hV34, -⟩ G
          have eV22 : vs 22 = .bool true := hV22 rfl
          have eV25 : vs 25 = .bool true := hV25 rfl
          exact stepAt.pure (v := .bool true) rfl rfl (by simp only [eV22, eV25]; go_simp) rfl
        · rintro vs u ⟨hV0, hV1, hV2, hV3, hV4, hV5, hV6, hV7, hV8, hV9, hV10, hV11, hV12, hV13, hV14, hV15, hV16, hV17, hV18, hV19, hV20, hV21, hV22, hV23, hV24, hV25, hV26, hV27, hV28, hV29, hV30, hV31, hV32, hV33, hV34, -⟩ G
          have eV26 : vs 26 = .bool true := hV26 rfl
          exact stepAt.pure (v := .bool true) rfl rfl (by simp only [eV26]; go_simp) rfl
        · rintro vs u ⟨hV0, hV1, hV2, hV3, hV4, hV5, hV6, hV7, hV8, hV9, hV10, hV11, hV12, hV13, hV14, hV15, hV16, hV17, hV18, hV19, hV20, hV21, hV22, hV23, hV24, hV25, hV26, hV27, hV28, hV29, hV30, hV31, hV32, hV33, hV34, -⟩ G
          have o0 := (z7.keep G).c0
          have o1 := (z7.keep G).c1
          exact stepAt.pure (v := .agg #[.slice A7_2 n7_2 c7_2, .slice B7_2 m7_2 k7_2]) rfl (wanted_by (g := 27) (b := true) (t := 83) rfl (by kernel_rfl) (congrArg some (show vs 27 = _ from hV27 rfl))) (by go_simp) rfl
        · rintro vs u ⟨hV0, hV1, hV2, hV3, hV4, hV5, hV6, hV7, hV8, hV9, hV10, hV11, hV12, hV13, hV14, hV15, hV16, hV17, hV18, hV19, hV20, hV21, hV22, hV23, hV24, hV25, hV26, hV27, hV28, hV29, hV30, hV31, hV32, hV33, hV34, -⟩ G
          have o0 := (xa.keep G).c0
          have o1 := (xa.keep G).c1
          exact stepAt.pure (v := .agg #[.slice A sha.length c, .slice A' ea.length c']) rfl (wanted_by (g := 27) (b := true) (t := 83) rfl (by kernel_rfl) (congrArg some (show vs 27 = _ from hV27 rfl))) (by go_simp) rfl
        · rintro vs u ⟨hV0, hV1, hV2, hV3, hV4, hV5, hV6, hV7, hV8, hV9, hV10, hV11, hV12, hV13, hV14, hV15, hV16, hV17, hV18, hV19, hV20, hV21, hV22, hV23, hV24, hV25, hV26, hV27, hV28, hV29, hV30, hV31, hV32, hV33, hV34, -⟩ G
          refine stepAt.call (f := 40) (args := #[vs 28, vs 29]) rfl (wanted_by (g := 27) (b := true) (t := 83) rfl (by kernel_rfl) (congrArg some (show vs 27 = _ from hV27 rfl))) (by go_simp) ?_
          have eV28 : vs 28 = .agg #[.slice A7_2 n7_2 c7_2, .slice B7_2 m7_2 k7_2] := hV28 rfl
          have eV29 : vs 29 = .agg #[.slice A sha.length c, .slice A' ea.length c'] := hV29 rfl
          rw [eV28, eV29]
          exact (tsame_u ((T7.at G)).tv (HA.at G) FSU FA rfl (Lib.hid (relus_2 ea))).mono fun _ _ ⟨v, h1, h2, h3⟩ => ⟨v, h1, h2, h3.now⟩
        · rintro vs u ⟨hV0, hV1, hV2, hV3, hV4, hV5, hV6, hV7, hV8, hV9, hV10, hV11, hV12, hV13, hV14, hV15, hV16, hV17, hV18, hV19, hV20, hV21, hV22, hV23, hV24, hV25, hV26, hV27, hV28, hV29, hV30, hV31, hV32, hV33, hV34, -⟩ G
          have eV27 : vs 27 = .bool true := hV27 rfl
          have eV30 : vs 30 = .bool true := hV30 rfl
          exact stepAt.pure (v := .bool true) rfl rfl (by simp only [eV27, eV30]; go_simp) rfl
        · rintro vs u ⟨hV0, hV1, hV2, hV3, hV4, hV5, hV6, hV7, hV8, hV9, hV10, hV11, hV12, hV13, hV14, hV15, hV16, hV17, hV18, hV19, hV20, hV21, hV22, hV23, hV24, hV25, hV26, hV27, hV28, hV29, hV30, hV31, hV32, hV33, hV34, -⟩ G
          have eV31 : vs 31 = .bool true := hV31 rfl
          exact stepAt.pure (v := .bool true) rfl rfl (by simp only [eV31]; go_simp) rfl
        · rintro vs u ⟨hV0, hV1, hV2, hV3, hV4, hV5, hV6, hV7, hV8, hV9, hV10, hV11, hV12, hV13, hV14, hV15, hV16, hV17, hV18, hV19, hV20, hV21, hV22, hV23, hV24, hV25, hV26, hV27, hV28, hV29, hV30, hV31, hV32, hV33, hV34, -⟩ G
          refine stepAt.call (f := 15) (args := #[]) rfl (wanted_by (g := 32) (b := true) (t := 88) rfl (by kernel_rfl) (congrArg some (show vs 32 = _ from hV32 rfl))) (by go_simp) ?_
          exact (known_u u).mono fun _ _ ⟨v, h1, h2, h3⟩ => ⟨v, h1, h2, h3.now⟩
        · rintro vs u ⟨hV0, hV1, hV2, hV3, hV4, hV5, hV6, hV7, hV8, hV9, hV10, hV11, hV12, hV13, hV14, hV15, hV16, hV17, hV18, hV19, hV20, hV21, hV22, hV23, hV24, hV25, hV26, hV27, hV28, hV29, hV30, hV31, hV32, hV33, hV34, -⟩ G
          have eV32 : vs 32 = .bool true := hV32 rfl
          have eV33 : vs 33 = .bool true := hV33 rfl
          exact stepAt.pure (v := .bool true) rfl rfl (by simp only [eV32, eV33]; go_simp) rfl
      case looses45 =>
        exact trivial
      rintro vs U8 ⟨hV0, hV1, hV2, hV3, hV4, hV5, hV6, hV7, hV8, hV9, hV10, hV11, hV12, hV13, hV14, hV15, hV16, hV17, hV18, hV19, hV20, hV21, hV22, hV23, hV24, hV25, hV26, hV27, hV28, hV29, hV30, hV31, hV32, hV33, hV34, -⟩ G
      have eV0 : vs 0 = .int .i64 0 := hV0
      have eV1 : vs 1 = .bool true := hV1
      have eV2 : vs 2 = .bool true := hV2
      have eV3 : vs 3 = .int .i64 0 := hV3
      have eV4 : vs 4 = .bool true := hV4
      have eV5 : vs 5 = .bool true := hV5
      have eV6 : vs 6 = .bool true := hV6
      have eV7 : vs 7 = .int .i64 0 := hV7
      have eV8 : vs 8 = .bool true := hV8
      have eV9 : vs 9 = .bool true := hV9
      have eV10 : vs 10 = .bool true := hV10
      have eV11 : vs 11 = .int .i64 0 := hV11
      have eV12 : vs 12 = .bool true := hV12
      have eV13 : vs 13 = .bool true := hV13
      have eV14 : vs 14 = .bool true := hV14
      have eV15 : vs 15 = .int .i64 0 := hV15
      have eV16 : vs 16 = .bool true := hV16
      have eV17 : vs 17 = .bool true := hV17
      have eV18 : vs 18 = .bool true := hV18
      have eV19 : vs 19 = .int .i64 0 := hV19
      have eV20 : vs 20 = .bool true := hV20
      have eV21 : vs 21 = .bool true := hV21
      have eV22 : vs 22 = .bool true := hV22
      have eV23 : vs 23 = .agg #[.slice A2_1 n2_1 c2_1, .slice B2_1 m2_1 k2_1] := hV23
      have eV24 : vs 24 = .agg #[.slice A4_2 n4_2 c4_2, .slice B4_2 m4_2 k4_2] := hV24
      have eV25 : vs 25 = .bool true := hV25
      have eV26 : vs 26 = .bool true := hV26
      have eV27 : vs 27 = .bool true := hV27
      have eV28 : vs 28 = .agg #[.slice A7_2 n7_2 c7_2, .slice B7_2 m7_2 k7_2] := hV28
      have eV29 : vs 29 = .agg #[.slice A sha.length c, .slice A' ea.length c'] := hV29
      have eV30 : vs 30 = .bool true := hV30
      have eV31 : vs 31 = .bool true := hV31
      have eV32 : vs 32 = .bool true := hV32
      have eV33 : vs 33 = .bool true := hV33
      have eV34 : vs 34 = .bool true := hV34
      simp only [eV0, eV1, eV2, eV3, eV4, eV5, eV6, eV7, eV8, eV9, eV10, eV11, eV12, eV13, eV14, eV15, eV16, eV17, eV18, eV19, eV20, eV21, eV22, eV23, eV24, eV25, eV26, eV27, eV28, eV29, eV30, eV31, eV32, eV33, eV34]
      clear eV0 eV1 eV2 eV3 eV4 eV5 eV6 eV7 eV8 eV9 eV10 eV11 eV12 eV13 eV14 eV15 eV16 eV17 eV18 eV19 eV20 eV21 eV22 eV23 eV24 eV25 eV26 eV27 eV28 eV29 eV30 eV31 eV32 eV33 eV34 hV0 hV1 hV2 hV3 hV4 hV5 hV6 hV7 hV8 hV9 hV10 hV11 hV12 hV13 hV14 hV15 hV16 hV17 hV18 hV19 hV20 hV21 hV22 hV23 hV24 hV25 hV26 hV27 hV28 hV29 hV30 hV31 hV32 hV33 hV34
      refine wpTill.next 35 rfl (by kernel_rfl) (by rfl) (fun K hK => ?_)
      go_simp
      refine hK _ _ (no_wait (by kernel_rfl)) ?_
      clear hK K
      refine wpTill.done (by kernel_rfl) ?_
      replace xa := xa.keep G
      replace z2 := z2.keep G
      replace z3 := z3.keep G
      replace z4 := z4.keep G
      replace z5 := z5.keep G
      replace z6 := z6.keep G
      replace z7 := z7.keep G
      replace HA := HA.keep G
      replace T2 := T2.keep G
      replace T3 := T3.keep G
      replace T4 := T4.keep G
      replace T5 := T5.keep G
      replace T6 := T6.keep G
      replace T7 := T7.keep G
      replace F := fr_then F G
      clear G
      repeat' ((fail_if_success (with_reducible refine wpTill.row (fun _ => True) 0 ?_ ?_)); go_step)
      go_ret
      exact ⟨rfl, F⟩
    · have hb0 : (r == 0) = false := beq_eq_false_iff_ne.2 h0
      refine wpTill.row (fun _ => True) 7 (by kernel_rfl) ?_
      change wpTill _ _ _ _ _ _ 8 _ _ _
      refine wpTill.free (jj := 7) (m := 0) [(0, Fact.eq (.agg #[.slice A sha.length c, .slice A' ea.length c'])),
      (1, Fact.eq (.bool true)),
      (2, Fact.eq (.bool false)),
      (3, Fact.eq (.bool false)),
      (4, Fact.eq (.agg #[.slice A sha.length c, .slice A' ea.length c'])),
      (5, Fact.eq (.int .i64 r)),
      (6, Fact.eq (.bool true)),
      (7, Fact.eq (.bool true))] [] [0, 1, 3, 7, 15, 31, 63, 127] [] ?_ (by kernel_rfl) (by kernel_rfl) (by kernel_rfl) [(0, some 15), (1, some 16), (2, some 17), (3, some 18), (4, some 19), (5, some 20), (6, some 21), (7, some 22)] (by kernel_rfl) ?hA36 ?hQ36 (fun _ _ => trivial) (by kernel_rfl) ?steps36 ?looses36 ?cont36
      case hQ36 => exact fun _ _ _ _ _ h => h
      case hA36 =>
        intro vs
        simp only [fillD, List.foldl_cons, List.foldl_nil, Act.put, List.setIfInBounds_toArray, List.set_cons_zero, List.set_cons_succ]
        exact rfl
      case steps36 =>
        refine ⟨?_, ?_, ?_, ?_, ?_, ?_, ?_, ?_, trivial⟩
        · rintro vs u ⟨hV0, hV1, hV2, hV3, hV4, hV5, hV6, hV7, -⟩ G
          have o0 := (xa.keep G).c0
          have o1 := (xa.keep G).c1
          exact stepAt.pure (v := .agg #[.slice A sha.length c, .slice A' ea.length c']) rfl rfl (by go_simp) rfl
        · rintro vs u ⟨hV0, hV1, hV2, hV3, hV4, hV5, hV6, hV7, -⟩ G
          refine stepAt.call (f := 11) (args := #[vs 0]) rfl rfl (by go_simp) ?_
          have eV0 : vs 0 = .agg #[.slice A sha.length c, .slice A' ea.length c'] := hV0 rfl
          rw [eV0]
          exact (few_u (HA.at G) HB1).mono fun _ _ ⟨v, h1, h2, h3⟩ => ⟨v, h1, h2, h3.now⟩
        · rintro vs u ⟨hV0, hV1, hV2, hV3, hV4, hV5, hV6, hV7, -⟩ G
          have eV1 : vs 1 = .bool true := hV1 rfl
          exact stepAt.pure (v := .bool false) rfl rfl (by simp only [eV1]; go_simp) rfl
        · rintro vs u ⟨hV0, hV1, hV2, hV3, hV4, hV5, hV6, hV7, -⟩ G
          have eV2 : vs 2 = .bool false := hV2 rfl
          exact stepAt.pure (v := .bool false) rfl rfl (by simp only [eV2]; go_simp) rfl
        · rintro vs u ⟨hV0, hV1, hV2, hV3, hV4, hV5, hV6, hV7, -⟩ G
          have o0 := (xa.keep G).c0
          have o1 := (xa.keep G).c1
          exact stepAt.pure (v := .agg #[.slice A sha.length c, .slice A' ea.length c']) rfl (wanted_by (g := 3) (b := false) (t := 18) rfl (by kernel_rfl) (congrArg some (show vs 3 = _ from hV3 rfl))) (by go_simp) rfl
        · rintro vs u ⟨hV0, hV1, hV2, hV3, hV4, hV5, hV6, hV7, -⟩ G
          refine stepAt.call (f := 12) (args := #[vs 4]) rfl (wanted_by (g := 3) (b := false) (t := 18) rfl (by kernel_rfl) (congrArg some (show vs 3 = _ from hV3 rfl))) (by go_simp) ?_
          have eV4 : vs 4 = .agg #[.slice A sha.length c, .slice A' ea.length c'] := hV4 rfl
          rw [eV4]
          exact (may_u (HA.at G) FA HR).mono fun _ _ ⟨v, h1, h2, h3⟩ => ⟨v, h1, h2, h3.now⟩
        · rintro vs u ⟨hV0, hV1, hV2, hV3, hV4, hV5, hV6, hV7, -⟩ G
          have eV5 : vs 5 = .int .i64 r := hV5 rfl
          exact stepAt.pure (v := .bool true) rfl (wanted_by (g := 3) (b := false) (t := 18) rfl (by kernel_rfl) (congrArg some (show vs 3 = _ from hV3 rfl))) (by simp only [eV5]; go_simp <;> omega) rfl
        · rintro vs u ⟨hV0, hV1, hV2, hV3, hV4, hV5, hV6, hV7, -⟩ G
          have eV3 : vs 3 = .bool false := hV3 rfl
          have eV6 : vs 6 = .bool true := hV6 rfl
          exact stepAt.pure (v := .bool true) rfl rfl (by simp only [eV3, eV6]; go_simp) rfl
      case looses36 =>
        exact trivial
      rintro vs U1 ⟨hV0, hV1, hV2, hV3, hV4, hV5, hV6, hV7, -⟩ G
      have eV0 : vs 0 = .agg #[.slice A sha.length c, .slice A' ea.length c'] := hV0
      have eV1 : vs 1 = .bool true := hV1
      have eV2 : vs 2 = .bool false := hV2
      have eV3 : vs 3 = .bool false := hV3
      have eV4 : vs 4 = .agg #[.slice A sha.length c, .slice A' ea.length c'] := hV4
      have eV5 : vs 5 = .int .i64 r := hV5
      have eV6 : vs 6 = .bool true := hV6
      have eV7 : vs 7 = .bool true := hV7
      simp only [eV0, eV1, eV2, eV3, eV4, eV5, eV6, eV7]
      clear eV0 eV1 eV2 eV3 eV4 eV5 eV6 eV7 hV0 hV1 hV2 hV3 hV4 hV5 hV6 hV7
      refine wpTill.done (by kernel_rfl) ?_
      replace xa := xa.keep G
      replace HA := HA.keep G
      replace F := fr_then F G
      clear G
      repeat' ((fail_if_success (with_reducible refine wpTill.row (fun _ => True) 0 ?_ ?_)); go_step)
      refine wpTill.row (fun _ => True) 1 (by kernel_rfl) ?_
      change wpTill _ _ _ _ _ _ 2 _ _ _
      refine wpTill.free (jj := 1) (m := 1) [(0, Fact.eq (.bool true))] [] [0, 1] [] ?_ (by kernel_rfl) (by kernel_rfl) (by kernel_rfl) [(0, some 23)] (by kernel_rfl) ?hA37 ?hQ37 (fun _ _ => trivial) (by kernel_rfl) ?steps37 ?looses37 ?cont37
      case hQ37 => exact fun _ _ _ _ _ h => h
      case hA37 =>
        intro vs
        simp only [fillD, List.foldl_cons, List.foldl_nil, Act.put, List.setIfInBounds_toArray, List.set_cons_zero, List.set_cons_succ]
        exact rfl
      case steps37 =>
        refine ⟨?_, trivial⟩
        · rintro vs u ⟨hV0, -⟩ G
          refine stepAt.call (f := 15) (args := #[]) rfl rfl (by go_simp) ?_
          exact (known_u u).mono fun _ _ ⟨v, h1, h2, h3⟩ => ⟨v, h1, h2, h3.now⟩
      case looses37 =>
        exact trivial
      rintro vs U2 ⟨hV0, -⟩ G
      have eV0 : vs 0 = .bool true := hV0
      simp only [eV0]
      clear eV0 hV0
      refine wpTill.next 1 rfl (by kernel_rfl) (by rfl) (fun K hK => ?_)
      go_simp
      refine hK _ _ (no_wait (by kernel_rfl)) ?_
      clear hK K
      refine wpTill.done (by kernel_rfl) ?_
      replace xa := xa.keep G
      replace HA := HA.keep G
      replace F := fr_then F G
      clear G
      repeat' ((fail_if_success (with_reducible refine wpTill.row (fun _ => True) 0 ?_ ?_)); go_step)
      go_ret
      exact ⟨rfl, F⟩
end Go.Proofs.YtlknmoegngjpcaaGreat
