import Derived.Test.YtjnojkfkhccgaaaGreatTenG

/- fluxionref07.May. -/
namespace Go.Proofs.YtjnojkfkhccgaaaGreat
open Go.RowKit

set_option maxHeartbeats 4000000 in
theorem rmayT_t {S T : Nat → Prop} (w : World) (vs ve : Value) (sh : List Int) (es : List RatL) (L : Nat) (hs : Sl Im S w vs sh) (he : Sl Rm T w ve es) (hL : ∀ x ∈ es, x.2.1.length ≤ L ∧ x.2.2.length ≤ L) (hL1 : 1 ≤ L) (hl : L ≤ 104857600) :
    Calls Tryz.prog 18 #[.agg #[vs, ve]] w fun e w' => e = .returned (.int .i64 (mayT sh es)) ∧ Fr (fun k => k < w.heap.size) w w' := by
  obtain ⟨A, c, rfl, _, _, _⟩ := hs.slice
  obtain ⟨A', c', rfl, _, _, hly⟩ := he.slice
  have F0 := fun R => ((Fr.refl R w).alloc (.cells #[.slice A sh.length c, .slice A' es.length c'] 26))
  have hs0 := hs.up Im_pos (Nat.le_refl _) (F0 _)
  have he0 := he.up Rm_pos (Nat.le_refl _) (F0 _)
  have hb0 := Box2.new w 26 (.slice A sh.length c) (.slice A' es.length c')
  replace F0 := F0 (fun k => k < w.heap.size)
  generalize hW : w.alloc (.cells #[.slice A sh.length c, .slice A' es.length c'] 26) = W at F0 hs0 he0 hb0
  obtain ⟨r, hr⟩ : ∃ r, r = mayT sh es := ⟨_, rfl⟩
  rw [← hr]
  obtain ⟨f, hf⟩ : ∃ f, f = mayS sh := ⟨_, rfl⟩
  obtain ⟨z, hz⟩ : ∃ z, z = cntS sh := ⟨_, rfl⟩
  have p1 := smay_calls W _ sh hs0
  have hD := fun R => (Fr.refl R W).drew
  have p2 := scount_calls W.drew _ sh (hs0.keep' Im_pos (hD _))
  rw [← hf] at p1
  rw [← hz] at p2
  have HR := Lib.hid hr
  have HF := Lib.hid hf
  have HZ := Lib.hid hz
  have HE := Lib.hid (he0.fr (hD _))
  have HL := Lib.hid hL
  have c0 := hb0.c0
  have c1 := hb0.c1
  have b1 := hb0.fr (hD (fun _ => True)) trivial
  have F1 := F0.drew
  clear hs he hr hf hz hs0 he0 hL hb0 hD
  go_enter Tryz.func18, Tryz.ntmps18
  by_cases h0 : f = 0
  · subst h0
    by_cases h1 : (es.length : Int) = z
    · have hli : ((es.length : Int) == z) = true := by rw [beq_iff_eq]; exact h1
      have HFT := Lib.hid (fitsT_0 HF.out.symm (h1.trans HZ.out))
      clear h1
      go_wp2_with fail
      refine p1.mono ?_
      rintro e w1 ⟨rfl, rfl⟩
      go_wp2_with fail
      go_region_with (first | (with_reducible refine p2.mono ?_; rintro e w1 ⟨rfl, rfl⟩))
      all_goals
        clear p1 p2 c0 c1 F0
        go_wp2_with fail
        go_loopw [4] (fun i wr => ∃ (j : Nat), i = .int .i64 j ∧ j ≤ es.length ∧ Hid (∀ i, i < j → LikeR (es.getD i zR)) ∧ Box2 wr w.heap.size 26 (.slice A sh.length c) (.slice A' es.length c') ∧ Hid (Sl Rm (fun k => k < w.heap.size) wr (.slice A' es.length c') es) ∧ Fr (fun k => k < w.heap.size) w wr) (fun i _ => es.length - (intOf i).toNat)
        case atStart => exact ⟨0, rfl, by omega, Lib.hid (fun i hi => by omega), b1, HE, F1⟩
        case round =>
          clear b1 HE F1
          obtain ⟨j, rfl, hj, HJ, b1, HE, F⟩ := hrel
          have c0 := b1.c0
          have c1 := b1.c1
          by_cases hlt : j < es.length
          · obtain ⟨ad, P, n, d, Q, m, o, rfl, hS, g0, g1, g2, r1, r2⟩ := Rm_get HE.out hlt
            have hlen := HL.out _ (List.getElem_mem hlt)
            have hgd : es.getD j zR = es[j] := by rw [List.getD_eq_getElem?_getD, List.getElem?_eq_getElem hlt]; rfl
            have hmem := List.getElem_mem hlt
            generalize es[j] = y at g0 r1 r2 hlen hgd hmem
            have HG := Lib.hid hgd
            clear hgd
            by_cases hk : LikeR y
            · have p := rmay_m wr y.1 _ _ y.2.1 y.2.2 L 0 (Lib.hid (if_pos hk)) r1 r2 hlen.1 hlen.2 hL1 hl
              have HJ' : Hid (∀ i, i < j + 1 → LikeR (es.getD i zR)) := Lib.hid (fun i hi => by
                rcases Nat.lt_succ_iff_lt_or_eq.1 hi with h | rfl
                · exact HJ.out i h
                · rw [HG.out]; exact hk)
              generalize y.1 = sy at g0 p
              clear r1 r2 hlen hk hmem
              go_wp2_with fail
              refine p.mono ?_
              rintro e w2 ⟨rfl, hf⟩
              go_wp2_with fail
              go_roundw
              case rel => exact ⟨j + 1, by go_num, by omega, HJ', b1.keep hf, Lib.hid (HE.out.keep' Rm_pos hf), fr_then F hf⟩
              case measure => first | (simp [intOf]; done) | (simp [intOf]; omega)
            · have p := rmay_m wr y.1 _ _ y.2.1 y.2.2 L 6 (Lib.hid (if_neg hk)) r1 r2 hlen.1 hlen.2 hL1 hl
              have HN : r = 6 := HR.out.trans (mayT_6 HFT.out fun h => hk (h _ hmem))
              generalize y.1 = sy at g0 p
              clear r1 r2 hlen hk hmem
              go_wp2_with fail
              refine p.mono ?_
              rintro e w2 ⟨rfl, hf⟩
              go_wp2_with fail
              go_ret
              exact ⟨by first | rfl | exact congrArg (fun z : Int => Ending.returned (.int .i64 z)) HN.symm, fr_then F hf⟩
          · obtain rfl : j = es.length := by omega
            have HN : r = 0 := HR.out.trans (mayT_0 HFT.out fun x hx => by
              obtain ⟨i, hi, rfl⟩ := mem_getD hx
              exact HJ.out i hi)
            go_wp2_with fail
            go_ret
            exact ⟨by first | rfl | exact congrArg (fun z : Int => Ending.returned (.int .i64 z)) HN.symm, F⟩
    · have hli : ((es.length : Int) == z) = false := by rw [beq_eq_false_iff_ne]; exact h1
      have HN : r = 13 := by
        have := fitsT_13 HF.out.symm (fun h => h1 (h.trans HZ.out.symm))
        exact HR.out.trans ((mayT_no (by rw [this]; decide)).trans this)
      clear h1
      go_wp2_with fail
      refine p1.mono ?_
      rintro e w1 ⟨rfl, rfl⟩
      go_wp2_with fail
      go_region_with (first | (with_reducible refine p2.mono ?_; rintro e w1 ⟨rfl, rfl⟩))
      all_goals
        go_wp2_with fail
        go_ret
        exact ⟨by first | rfl | exact congrArg (fun z : Int => Ending.returned (.int .i64 z)) HN.symm, F1⟩
  · have HN : r = f := by
      have := fitsT_no (n := es.length) (by rw [← HF.out]; exact h0)
      exact HR.out.trans ((mayT_no (by rw [this, ← HF.out]; exact h0)).trans (this.trans HF.out.symm))
    go_wp2_with fail
    refine p1.mono ?_
    rintro e w1 ⟨rfl, rfl⟩
    go_wp2_with fail
    go_ret
    exact ⟨by first | rfl | exact congrArg (fun z : Int => Ending.returned (.int .i64 z)) HN.symm, F0⟩
end Go.Proofs.YtjnojkfkhccgaaaGreat
