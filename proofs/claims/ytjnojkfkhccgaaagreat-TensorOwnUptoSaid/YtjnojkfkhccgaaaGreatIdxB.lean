import Derived.Test.YtjnojkfkhccgaaaGreatIdxA

/- The document's Offset. -/
namespace Go.Proofs.YtjnojkfkhccgaaaGreat
open Go.RowKit

theorem offE_in {sh idx : List Int} (hm : mayS sh = 0) (hl : idx.length = sh.length) : (offE sh idx = 0 ↔ inL sh idx) ∧ (¬ inL sh idx → offE sh idx = 21) := by
  constructor
  · constructor
    · intro h; exact (inL_iff hl).2 (offE_ok h).2.2
    · intro h; exact offE_0 hm hl ((inL_iff hl).1 h)
  · intro h; exact offE_21 hm hl fun g => h ((inL_iff hl).2 g)

set_option maxHeartbeats 4000000 in
theorem soffset_t {S T : Nat → Prop} (w : World) (va vb : Value) (sh idx : List Int) (ha : Sl Im S w va sh) (hb : Sl Im T w vb idx) :
    Calls Tryz.prog 19 #[va, vb] w fun e w' => e = .returned (.tuple #[.int .i64 (if offE sh idx = 0 then ofs sh idx sh.length else 0), .int .i64 (offE sh idx)]) ∧ Fr (fun k => k < w.heap.size) w w' := by
  obtain ⟨A, c, rfl, _, _, hlx⟩ := ha.slice
  obtain ⟨A', c', rfl, _, _, hly⟩ := hb.slice
  have p := smay_calls w (.slice A sh.length c) sh ha
  obtain ⟨e, he⟩ : ∃ e, e = mayS sh := ⟨_, rfl⟩
  obtain ⟨r, hr⟩ : ∃ r, r = offE sh idx := ⟨_, rfl⟩
  obtain ⟨z, hz⟩ : ∃ z, z = (if offE sh idx = 0 then ofs sh idx sh.length else 0) := ⟨_, rfl⟩
  rw [← he] at p
  rw [← hz, ← hr]
  have HA := Lib.hid (ha.low Im_pos)
  have HB := Lib.hid (hb.low Im_pos)
  have HE := Lib.hid he
  have HR := Lib.hid hr
  have HZ := Lib.hid hz
  clear ha hb he hr hz
  go_enter Tryz.func19, Tryz.ntmps19
  by_cases h0 : e = 0
  · subst h0
    by_cases hl : idx.length = sh.length
    · have hli : ((idx.length : Int) == (sh.length : Int)) = true := by simp [hl]
      obtain ⟨h4, h1, h2⟩ := mayS_ok HE.out.symm
      have hpos := pr_pos h1
      obtain ⟨N, hN⟩ : ∃ N : Nat, pr sh = (N : Int) := ⟨(pr sh).toNat, by omega⟩
      have hNt : (pr sh).toNat = N := by omega
      have H1 := Lib.hid h1
      have HP := Lib.hid hN
      have ix := Lib.hid (indexes_t w (.slice A sh.length c) sh HA.out HE.out.symm)
      rw [hNt] at ix
      clear h1
      go_wp2_with fail
      refine p.mono ?_
      rintro e w1 ⟨rfl, rfl⟩
      go_wp2_with fail
      refine ix.out.mono ?_
      rintro e w2 ⟨vl, rfl, ho, F1⟩
      obtain ⟨A1, c1, hvl, _, _, hlv⟩ := ho.slice
      have hll : ((List.range N).map (seqI sh)).length = N := by simp
      subst hvl
      have HO := Lib.hid ho.sl
      clear ho ix
      go_wp2_with fail
      rw [hll] at hlv HO
      rw [hl] at HB
      go_loopw [8] (fun i wr => ∃ j : Nat, j ≤ N ∧ i = .int .i64 j ∧ Hid (∀ k, k < j → seqI sh k ≠ idx) ∧ Fr (fun _ => True) w2 wr) (fun i _ => N - (intOf i).toNat)
      case atStart => exact ⟨0, Nat.zero_le _, rfl, Lib.hid (fun k hk => by omega), Fr.refl _ _⟩
      case round =>
        obtain ⟨j, hj, rfl, HK, F⟩ := hrel
        have FF := F1.comp F (R := fun k => k < w1.heap.size) fun k _ hk => ⟨hk, trivial⟩
        by_cases hlt : j < N
        · have hjl : j < ((List.range N).map (seqI sh)).length := by rw [hll]; exact hlt
          have hsl := HO.out.any.fr F
          rw [show (Value.slice A1 N c1) = Value.slice A1 ((List.range N).map (seqI sh)).length c1 by rw [hll]] at hsl
          obtain ⟨ad, P, n, d, rfl, -, hx, hv⟩ := Ix_get hsl hjl
          rw [List.getElem_map, List.getElem_range] at hv
          have q := samelist_calls wr (.slice P n d) (.slice A' sh.length c') (seqI sh j) idx hv (HB.out.fr FF)
          have hst : Hid (seqI sh j ≠ idx → ∀ k, k < j + 1 → seqI sh k ≠ idx) := Lib.hid fun h k hk => by
            rcases Nat.lt_succ_iff_lt_or_eq.1 hk with h' | rfl
            · exact HK.out k h'
            · exact h
          clear hsl hjl
          by_cases hq : seqI sh j = idx
          · rw [decide_eq_true hq] at q
            have HQ := Lib.hid q
            have hin := (seq_in H1.out (k := j) (by omega))
            rw [hq] at hin
            have HN : r = 0 := HR.out.trans ((offE_in HE.out.symm hl).1.2 hin.1)
            have HM : z = (j : Int) := HZ.out.trans ((if_pos (by rw [← HR.out, HN])).trans ((ofs_L hl).trans hin.2))
            clear q hin hq
            go_wp2_with fail
            refine HQ.out.mono ?_
            rintro e w3 ⟨rfl, hf⟩
            go_wp2_with fail
            go_ret2
            exact ⟨by first | rfl | rw [HN, HM]; rfl, FF.comp hf fun k _ hk => ⟨hk, trivial⟩⟩
          · rw [decide_eq_false hq] at q
            have HQ := Lib.hid q
            have HK2 := Lib.hid (hst.out hq)
            clear q hst hq
            go_wp2_with fail
            refine HQ.out.mono ?_
            rintro e w3 ⟨rfl, hf⟩
            go_wp2_with fail
            go_roundw
            case rel => exact ⟨j + 1, by omega, by go_num, HK2, F.trans hf⟩
            case measure => first | (simp [intOf]; done) | (simp [intOf]; omega)
        · obtain rfl : j = N := by omega
          have hno : ¬ inL sh idx := fun h => by
            have hb := ofsL_lt h
            have := HK.out (ofsL sh idx).toNat (by have := HP.out; omega)
            exact this ((seq_of H1.out h (k := (ofsL sh idx).toNat) (by omega)).2 (by omega))
          have HN : r = 21 := HR.out.trans ((offE_in HE.out.symm hl).2 hno)
          have HM : z = 0 := HZ.out.trans (if_neg (by rw [← HR.out, HN]; decide))
          clear hno
          go_wp2_with fail
          go_ret2
          exact ⟨by first | rfl | rw [HN, HM]; rfl, FF⟩
    · have hli : ((idx.length : Int) == (sh.length : Int)) = false := by rw [beq_eq_false_iff_ne]; omega
      have HN : r = 2 := HR.out.trans (offE_2 HE.out.symm hl)
      have HM : z = 0 := HZ.out.trans (if_neg (by rw [← HR.out, HN]; decide))
      go_wp2_with fail
      refine p.mono ?_
      rintro e w1 ⟨rfl, rfl⟩
      go_wp2_with fail
      go_ret2
      exact ⟨by first | rfl | rw [HN, HM]; rfl, Fr.refl _ _⟩
  · have HN : r = e := HR.out.trans ((offE_no (by rw [← HE.out]; exact h0)).trans HE.out.symm)
    have HM : z = 0 := HZ.out.trans (if_neg (by rw [← HR.out, HN]; exact h0))
    go_wp2_with fail
    refine p.mono ?_
    rintro e w1 ⟨rfl, rfl⟩
    go_wp2_with fail
    go_ret2
    exact ⟨by first | rfl | rw [HN, HM]; rfl, Fr.refl _ _⟩
end Go.Proofs.YtjnojkfkhccgaaaGreat
