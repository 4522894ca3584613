import Derived.Test.YtjnojkfkhccgaaaGreatTenN

/- tensor.Make. -/
namespace Go.Proofs.YtjnojkfkhccgaaaGreat
open Go.RowKit

/-- What Make answers. -/
def MakeR (w : World) (sh : List Int) (es : List RatL) (r : Int) (e : Ending) (w' : World) : Prop := ∃ v1 v2, e = .returned (.tuple #[.agg #[v1, v2], .int .i64 r]) ∧ (r ≠ 0 → v1 = .slice none 0 0 ∧ v2 = .slice none 0 0) ∧
  (r = 0 → Own Im 3 (fun k => w.heap.size ≤ k) w' v1 sh ∧ Own Rm 43 (fun k => w.heap.size ≤ k) w' v2 (es.map normR)) ∧ Fr (fun k => k < w.heap.size) w w'

set_option maxHeartbeats 4000000 in
theorem make_t {S T : Nat → Prop} (w : World) (vs ve : Value) (sh : List Int) (es : List RatL) (L : Nat) (hs : Sl Im S w vs sh) (he : Sl Rm T w ve es) (hL : ∀ x ∈ es, x.2.1.length ≤ L ∧ x.2.2.length ≤ L) (hL1 : 1 ≤ L) (hl : L ≤ 104857600) (hsl : sh.length ≤ 1099511627000) (hel : es.length ≤ 1099511627000) :
    Calls Tryz.prog 9 #[vs, ve] w (MakeR w sh es (fitsT sh es.length)) := by
  obtain ⟨A, c, rfl, _, _, hlx⟩ := hs.slice
  obtain ⟨A', c', rfl, _, _, hly⟩ := he.slice
  have F := fun R => ((Fr.refl R w).alloc (.cells #[.slice none 0 0, .slice none 0 0] 26)).alloc (.cells #[.slice A sh.length c, .slice A' es.length c'] 26)
  have HS := Lib.hid (hs.up Im_pos (Nat.le_refl _) (F _))
  have HE := Lib.hid (he.up Rm_pos (Nat.le_refl _) (F _))
  have b2 := (Box2.new w 26 (.slice none 0 0) (.slice none 0 0)).alloc (.cells #[.slice A sh.length c, .slice A' es.length c'] 26)
  have b1 := Box2.new (w.alloc (.cells #[.slice none 0 0, .slice none 0 0] 26)) 26 (.slice A sh.length c) (.slice A' es.length c')
  simp only [World.size_alloc] at b1
  replace F := F (fun k => k < w.heap.size)
  obtain ⟨r, hr⟩ : ∃ r, r = fitsT sh es.length := ⟨_, rfl⟩
  rw [← hr]
  have HR := Lib.hid hr
  have HL := Lib.hid hL
  clear hs he hr hL
  go_enter Tryz.func9, Tryz.ntmps9
  go_wp2_with fail
  refine (fits_t _ _ _ _ _ sh HS.out hly).mono ?_
  rintro e w1 ⟨rfl, hf1⟩
  rw [← HR.out]
  replace HS := Lib.hid (HS.out.keep' Im_pos hf1)
  replace HE := Lib.hid (HE.out.keep' Rm_pos hf1)
  replace b1 := b1.keep hf1
  replace b2 := b2.keep hf1
  replace F := fr_then F hf1
  have l2 := b2.lt
  clear hf1
  by_cases h0 : r = 0
  · subst h0
    have c0 := b1.c0
    have c1 := b1.c1
    go_wp2_with fail
    with_reducible refine (of_t _ _ _ _ _ _ _).mono ?_
    rintro e w2 ⟨rfl, hf2⟩
    replace HS := Lib.hid (HS.out.keep' Im_pos hf2)
    replace HE := Lib.hid (HE.out.keep' Rm_pos hf2)
    replace b2 := b2.keep hf2
    replace F := fr_then F hf2
    clear hf2 b1 c0 c1
    have l2 := b2.lt
    go_wp2_with fail
    with_reducible refine (turned_t _ _ _ sh es L HS.out HE.out HL.out hL1 hl hsl hel).mono ?_
    rintro e w3 ⟨v1, v2, rfl, h1, h2, hf3⟩
    obtain ⟨A1, n1, c1, rfl⟩ := h1.form
    obtain ⟨A2, n2, c2, rfl⟩ := h2.form
    have l3 := hf3.size
    replace b2 := b2.keep hf3
    have F3 := fr_then F hf3
    have s2 : w.heap.size + 1 ≤ w2.heap.size := by omega
    clear hf3 HS HE F
    go_wp2_with fail
    with_reducible refine (back_t _ _ _ _ _ _ _).mono ?_
    rintro e w4 ⟨rfl, hf4⟩
    replace h1 := h1.keep' hf4
    replace h2 := h2.keep' hf4
    replace b2 := b2.keep hf4
    have F4 := fr_then F3 hf4
    clear hf4 F3
    go_wp2_with ((with_reducible apply wpList_st2); rfl; rfl; exact b2; exact ten2; rfl; rfl; intro w9 B9 F9)
    refine bodyPost_ret (results_cell2_tmp rfl rfl B9 Tryz.underlying26 ten2) rfl ?_
    exact ⟨_, _, rfl, fun h => absurd rfl h, fun _ => ⟨(h1.past F9 fun k hk => by omega).mono fun k hk => by omega, (h2.past F9 fun k hk => by omega).mono fun k hk => by omega⟩, F4.comp F9 fun k _ hk => ⟨hk, by omega⟩⟩
  · go_wp2_with ((with_reducible apply wpList_st2); rfl; rfl; exact b2; exact ten2; rfl; rfl; intro w9 B9 F9)
    refine bodyPost_ret (results_cell2_tmp rfl rfl B9 Tryz.underlying26 ten2) rfl ?_
    exact ⟨.slice none 0 0, .slice none 0 0, rfl, fun _ => ⟨rfl, rfl⟩, fun h => absurd h h0, F.comp F9 fun k _ hk => ⟨hk, by omega⟩⟩
end Go.Proofs.YtjnojkfkhccgaaaGreat
