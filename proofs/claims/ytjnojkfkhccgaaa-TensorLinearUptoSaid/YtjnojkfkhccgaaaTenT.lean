import Derived.Test.YtjnojkfkhccgaaaTenS

/- TensorMay. -/
namespace Go.Proofs.Ytjnojkfkhccgaaa
open Go.RowKit

/-- How many limbs there are in all. -/
def limbsN (l : List RatL) : Nat := (l.map fun x => x.2.1.length).sum
def limbsD (l : List RatL) : Nat := (l.map fun x => x.2.2.length).sum
/-- A tensor in memory, of L places at most. -/
structure TL (S : Nat → Prop) (w : World) (v : Value) (sh : List Int) (es : List RatL) (L : Nat) : Prop where
  ex : ∃ vs ve, v = .agg #[vs, ve] ∧ Sl Im S w vs sh ∧ Sl Rm S w ve es
  ls : sh.length ≤ L
  le : es.length ≤ L
  lx : ∀ x ∈ es, x.2.1.length ≤ L ∧ x.2.2.length ≤ L
  lt : limbsN es + limbsD es ≤ L
theorem TL.wide {S : Nat → Prop} {w : World} {v : Value} {sh : List Int} {es : List RatL} {L M : Nat} (h : TL S w v sh es L) (hl : L ≤ M) : TL S w v sh es M :=
  ⟨h.ex, Nat.le_trans h.ls hl, Nat.le_trans h.le hl, fun x hx => ⟨Nat.le_trans (h.lx x hx).1 hl, Nat.le_trans (h.lx x hx).2 hl⟩, Nat.le_trans h.lt hl⟩

theorem may_h {S T : Nat → Prop} (w : World) (vs ve : Value) (sh : List Int) (es : List RatL) (L : Nat) (m : Int) (hm : Hid (mayT sh es = m)) (hs : Sl Im S w vs sh) (he : Sl Rm T w ve es) (hL : ∀ x ∈ es, x.2.1.length ≤ L ∧ x.2.2.length ≤ L) (hL1 : 1 ≤ L) (hl : L ≤ 104857600) :
    Calls Try.prog 5 #[.agg #[vs, ve]] w fun e w' => e = .returned (.int .i64 m) ∧ Fr (fun k => k < w.heap.size) w w' := by
  have := may_t w vs ve sh es L hs he hL hL1 hl
  rwa [hm.out] at this
theorem rmay_h {S T : Nat → Prop} (w : World) (vs ve : Value) (sh : List Int) (es : List RatL) (L : Nat) (m : Int) (hm : Hid (mayT sh es = m)) (hs : Sl Im S w vs sh) (he : Sl Rm T w ve es) (hL : ∀ x ∈ es, x.2.1.length ≤ L ∧ x.2.2.length ≤ L) (hL1 : 1 ≤ L) (hl : L ≤ 104857600) :
    Calls Try.prog 7 #[.agg #[vs, ve]] w fun e w' => e = .returned (.int .i64 m) ∧ Fr (fun k => k < w.heap.size) w w' := by
  have := rmayT_t w vs ve sh es L hs he hL hL1 hl
  rwa [hm.out] at this

set_option maxHeartbeats 4000000 in
theorem tmay_walk {S : Nat → Prop} {sh : List Int} {es : List RatL} (w : World) (v : Value) (L : Nat) (h : TL S w v sh es L) (hL : L ≤ 1048576) :
    Calls Try.prog 3 #[v] w fun e w' => e = .returned (.bool true) ∧ Fr (fun k => k < w.heap.size) w w' := by
  obtain ⟨vs, ve, rfl, hs, he⟩ := h.ex
  have ls := h.ls
  have le := h.le
  have HL := Lib.hid (show ∀ x ∈ es, x.2.1.length ≤ L + 1 ∧ x.2.2.length ≤ L + 1 from fun x hx => by have := h.lx x hx; omega)
  have HL2 := Lib.hid (show ∀ x ∈ es, x.2.1.length ≤ 1099511627000 ∧ x.2.2.length ≤ 1099511627000 from fun x hx => by have := h.lx x hx; omega)
  obtain ⟨A, n, c, rfl⟩ := hs.form
  obtain ⟨A', n', c', rfl⟩ := he.form
  obtain ⟨m, hm⟩ : ∃ m, mayT sh es = m := ⟨_, rfl⟩
  have HM := Lib.hid hm
  have F := (Fr.refl (fun k => k < w.heap.size) w).alloc (.cells #[.slice A n c, .slice A' n' c'] 26)
  have x1 := Box2.new w 26 (.slice A n c) (.slice A' n' c')
  have hs0 := hs.keep' Im_pos F
  have he0 := he.keep' Rm_pos F
  generalize hW : w.alloc (.cells #[.slice A n c, .slice A' n' c'] 26) = W at F x1 hs0 he0
  have D := fun R => (Fr.refl R W).drew
  replace x1 := x1.keep (D _)
  have HS := Lib.hid (hs0.keep' Im_pos (D _))
  have HE := Lib.hid (he0.keep' Rm_pos (D _))
  replace F := F.drew
  have KS : ∀ u, Fr (fun k => k < W.drew.heap.size) W.drew u → u.cell? ⟨w.heap.size, 0, none⟩ = some (.slice A n c) ∧ u.cell? ⟨w.heap.size, 1, none⟩ = some (.slice A' n' c') := fun u h => ⟨(x1.keep h).c0, (x1.keep h).c1⟩
  have K0 := Fr.refl (fun k => k < W.drew.heap.size) W.drew
  have hl1 : 1 ≤ L + 1 := by omega
  have hl2 : L + 1 ≤ 104857600 := by omega
  clear h hs he hs0 he0 hm D x1
  go_enter Try.func3, Try.ntmps3
  go_wp2_with fail
  clear hW
  go_region_held3 (fun u => u.cell? ⟨w.heap.size, 0, none⟩ = some (.slice A n c) ∧ u.cell? ⟨w.heap.size, 1, none⟩ = some (.slice A' n' c')) (with_reducible exact KS _ K0) (first
    | ((with_reducible refine (town_t _ (.slice A n c) (.slice A' n' c') sh es (HS.out.keep' Im_pos K0) (HE.out.keep' Rm_pos K0) (by omega) (by omega) HL2.out).mono ?_); rintro e wq ⟨v1, v2, rfl, h1, h2, hf⟩; obtain ⟨B1, i1, j1, rfl⟩ := h1.form; obtain ⟨B2, i2, j2, rfl⟩ := h2.form; have K0 := fr_then K0 hf)
    | ((with_reducible refine (may_h _ (.slice B1 i1 j1) (.slice B2 i2 j2) sh es (L + 1) m HM h1.sl h2.sl HL.out hl1 hl2).mono ?_); rintro e wq ⟨rfl, hf⟩; have K0 := fr_then K0 hf)
    | ((with_reducible refine (rmay_h _ (.slice A n c) (.slice A' n' c') sh es (L + 1) m HM (HS.out.keep' Im_pos K0) (HE.out.keep' Rm_pos K0) HL.out hl1 hl2).mono ?_); rintro e wq ⟨rfl, hf⟩; have K0 := fr_then K0 hf)
    | ((with_reducible refine (tknown _).mono ?_); rintro e wq ⟨rfl, hf⟩; have K0 := fr_then K0 hf))
  go_wp2_with fail
  go_ret
  exact ⟨rfl, fr_then F K0⟩
end Go.Proofs.Ytjnojkfkhccgaaa
