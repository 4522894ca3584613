/- The base, part G: what the elder chapters' texts prove, of the functions that this seat has. -/
import Derived.Test.YtlppcfeimpcbjaaGreatBaseF
import Derived.Test.YtlppcfeimpcbjaaGreatBaseD
import Derived.Laws.CopyOwn
import Derived.Test.YtlppcfeimpcbjaaGreatBaseC
set_option linter.unusedSimpArgs false
set_option linter.unusedVariables false

/- quo.DivMod. -/
namespace Go.Proofs.YtlppcfeimpcbjaaGreat
open Go.RowKit

theorem sl_src {S : Nat → Prop} {w : World} {ad : Addr} {n c : Nat} {xs : List Nat} (h : Sl Lm S w (.slice (some ad) n c) xs) : ∀ (j : Nat) (v : Value), (xs.map fun q : Nat => Value.int .u32 (q : Int))[j]? = some v → w.cell? (ad.add j) = some v := by
  intro j v hv
  rw [List.getElem?_map] at hv
  cases hx : xs[j]? with
  | none => rw [hx] at hv; cases hv
  | some x =>
    rw [hx] at hv
    obtain ⟨hlt, rfl⟩ := List.getElem?_eq_some_iff.1 hx
    cases hv
    have hsl := h
    obtain ⟨_, _, e, _⟩ := h.slice
    cases e
    obtain ⟨ad', e, hc, _⟩ := Kd.nat_cell hsl (i := j) hlt
    cases e
    exact hc
theorem lz_calls (w : World) (x : Nat) (hx : x < LB) :
    Calls Tryz.prog 159 #[.int .u32 x] w fun e w' => e = .returned (.int .i64 (32 - (blen x : Int))) ∧ w' = w := by
  have hx' : x < 4294967296 := hx
  rw [← bitLen_blen x hx']
  simpa using Tryz.bits_LeadingZeros32 (x : Int) w (by omega) (by omega)

/-- A number shifted till its top limb's top bit is set. -/
theorem lead_norm {B n x : Nat} (hn : (dg LB B).length = n + 1) (hx : (dg LB B)[n]? = some x) : ∃ s, blen x + s = 32 ∧ s ≤ 31 ∧ x < LB ∧ (dg LB (B * 2 ^ s)).length = n + 1 ∧ 2147483648 ≤ (dg LB (B * 2 ^ s)).getD n 0 ∧ 2 ^ s * LB ^ n ≤ B * 2 ^ s ∧ B * 2 ^ s < LB ^ (n + 1) := by
  have hxl : x < LB := dg_lt LB2 B x (List.mem_of_getElem? hx)
  have hx0 : 0 < x := by
    have := dg_last LB2 B x (by rw [List.getLast?_eq_getElem?, hn]; exact hx)
    omega
  obtain ⟨k, hk, h1, h2⟩ := blen_pos hx0
  have hk31 : k ≤ 31 := by
    rcases Nat.lt_or_ge 31 k with h | h
    · have := Nat.pow_le_pow_right (n := 2) (by decide) (show 32 ≤ k from h)
      have e : (2 : Nat) ^ 32 = LB := by decide
      omega
    · exact h
  refine ⟨31 - k, by omega, by omega, hxl, ?_⟩
  have hS : 2 ^ k * 2 ^ (31 - k) = 2147483648 := by rw [← Nat.pow_add, show k + (31 - k) = 31 by omega]
  have hS0 : 0 < 2 ^ (31 - k) := Nat.pow_pos (by decide)
  rw [Nat.pow_succ] at h2
  generalize 2 ^ (31 - k) = S at hS hS0
  generalize 2 ^ k = Q at h1 h2 hS
  have g1 : 2147483648 ≤ x * S := by rw [← hS]; exact Nat.mul_le_mul_right S h1
  have g2 : (x + 1) * S ≤ LB := by
    have := Nat.mul_le_mul_right S (show x + 1 ≤ Q * 2 by omega)
    rw [Nat.mul_right_comm, hS] at this
    exact this
  have hsp := val_split (dg LB B) n (by omega)
  have hdr : (dg LB B).drop n = [x] := by
    have hlt : n < (dg LB B).length := by omega
    rw [List.drop_eq_getElem_cons hlt, List.drop_of_length_le (by omega)]
    rw [List.getElem?_eq_getElem hlt] at hx
    simpa using hx
  have hlo := ofB_lt (b := LB) (l := (dg LB B).take n) (fun d hd => dg_lt LB2 B d (List.mem_of_mem_take hd))
  rw [List.length_take, Nat.min_eq_left (by omega)] at hlo
  have hB : B = val ((dg LB B).take n) + LB ^ n * x := by
    rw [val_dg, hdr] at hsp
    simpa [val, ofB] using hsp
  generalize hlo' : val ((dg LB B).take n) = lo at hB
  have hlo2 : lo < LB ^ n := by rw [← hlo']; exact hlo
  have hBS : B * S = lo * S + LB ^ n * (x * S) := by rw [hB, Nat.add_mul, Nat.mul_assoc]
  have f1 : lo * S + LB ^ n * (x * S) < LB ^ n * LB := by
    have h3 : lo * S < LB ^ n * S := Nat.mul_lt_mul_of_pos_right hlo2 hS0
    have h4 := Nat.mul_le_mul_left (LB ^ n) g2
    rw [Nat.add_mul, Nat.one_mul, Nat.mul_add] at h4
    omega
  have f2 : 2147483648 * LB ^ n ≤ B * S := by
    have := Nat.mul_le_mul_left (LB ^ n) g1
    rw [hBS, Nat.mul_comm 2147483648]; omega
  have f3 : B * S < LB ^ (n + 1) := by rw [hBS, Nat.pow_succ]; exact f1
  have hlen : (dg LB (B * S)).length = n + 1 := by
    have h5 := dg_len_le LB2 f3
    rcases Nat.lt_or_ge n (dg LB (B * S)).length with h | h
    · omega
    · have h6 := lt_pow_dg LB2 (B * S)
      have h7 := Nat.pow_le_pow_right LBpos h
      have h8 := Nat.pow_pos (n := n) LBpos
      omega
  refine ⟨hlen, ?_, ?_, f3⟩
  · rw [dg_get LB2]
    have h9 : 2147483648 ≤ B * S / LB ^ n := (Nat.le_div_iff_mul_le (Nat.pow_pos LBpos)).2 f2
    have h10 : B * S / LB ^ n < LB := Nat.div_lt_of_lt_mul (by rw [← Nat.pow_succ]; exact f3)
    rw [Nat.mod_eq_of_lt h10]; exact h9
  · refine Nat.le_trans (Nat.mul_le_mul_right _ ?_) f2
    have : S ≤ 2 ^ 31 := by
      have hQ : 0 < Q := by
        rcases Nat.eq_zero_or_pos Q with e | e
        · subst e; omega
        · exact e
      have := Nat.le_mul_of_pos_left S hQ
      rw [hS] at this
      exact this
    exact this

set_option maxHeartbeats 2000000 in
theorem divmod_0 {S T : Nat → Prop} (w : World) (va vb : Value) (A L K : Nat) (ha : Num S w va A L) (hb : Num T w vb 0 K) (hl : L ≤ 1048576000) (hk : K ≤ 1048576000) :
    Calls Tryz.prog 152 #[va, vb] w fun e w' => e = .returned (.tuple #[.slice none 0 0, .slice none 0 0, .int .i64 17]) ∧ Fr (fun k => k < w.heap.size) w w' := by
  go_enter Tryz.func152, Tryz.ntmps152
  go_wp2_with fail
  refine (trim_n _ _ _ _ ha (by omega)).mono ?_
  rintro e w1 ⟨v1, rfl, h1, hf⟩
  have F := hf
  replace hb := hb.keep hf; clear hf
  go_wp2_with fail
  refine (trim_n _ _ _ _ hb (by omega)).mono ?_
  rintro e w2 ⟨v2, rfl, h2, hf⟩
  replace F := fr_then F hf
  obtain ⟨A2, c2, rfl, _, _, _⟩ := h2.sl.slice
  rw [dg_zero]
  clear h1 h2 hf
  go_wp2_with fail
  go_ret3
  exact ⟨rfl, F⟩

set_option maxRecDepth 20000 in
set_option maxHeartbeats 4000000 in
theorem divmod_n {S T : Nat → Prop} (w : World) (va vb : Value) (A B L K : Nat) (ha : Num S w va A L) (hb : Num T w vb B K) (hB0 : 0 < B) (hl : L ≤ 1048576000) (hk : K ≤ 1048576000) :
    Calls Tryz.prog 152 #[va, vb] w fun e w' => ∃ q r, e = .returned (.tuple #[q, r, .int .i64 0]) ∧ Can (fun k => w.heap.size ≤ k) w' q (A / B) L ∧ Can (fun k => w.heap.size ≤ k) w' r (A % B) L ∧ Fr (fun k => k < w.heap.size) w w' := by
  have hAlt := ha.lt
  have hmodA : A % B < LB ^ L := Nat.lt_of_le_of_lt (Nat.mod_le _ _) hAlt
  go_enter Tryz.func152, Tryz.ntmps152
  go_wp2_with fail
  refine (trim_n _ _ _ _ ha (by omega)).mono ?_
  rintro e w1 ⟨v1, rfl, h1, hf⟩
  have F := hf
  replace hb := hb.keep hf; clear hf ha
  have s1 := F.size
  go_wp2_with fail
  refine (trim_n _ _ _ _ hb (by omega)).mono ?_
  rintro e w2 ⟨v2, rfl, h2, hf⟩
  replace F := fr_then F hf
  have s2 := hf.size
  replace h1 : Can (fun k => w.heap.size ≤ k) w2 v1 A L := h1.keep hf
  replace h2 : Can (fun k => w.heap.size ≤ k) w2 v2 B K := ⟨h2.own.mono fun k hk => by omega, h2.len⟩
  clear hf hb
  have hBl := (dg_len_pos LB2).2 hB0
  obtain ⟨A1, c1, hv1, hc1, hm1, hl1⟩ := h1.sl.slice
  obtain ⟨A2, c2, hv2, hc2, hm2, hl2⟩ := h2.sl.slice
  subst hv1 hv2
  have hz : (((dg LB B).length : Int) == 0) = false := beq_eq_false_iff_ne.2 (by omega)
  go_wp2_with fail
  by_cases hlt : A < B
  · have hc := cmp_n w2 _ _ A B L K h1.num h2.num
    rw [show cmpN A B = -1 from if_pos hlt] at hc
    refine hc.mono ?_
    rintro e w3 ⟨rfl, hf⟩
    go_wp2_with fail
    go_ret3
    refine ⟨_, _, rfl, ?_, ?_, fr_then F hf⟩
    · rw [Nat.div_eq_of_lt hlt]; exact ⟨by rw [dg_zero]; exact Own.nil _ _ _ _, by rw [dg_zero]; simp⟩
    · rw [Nat.mod_eq_of_lt hlt]; exact h1.keep hf
  · obtain ⟨r, hr, hr0⟩ : ∃ r, r = cmpN A B ∧ 0 ≤ r := ⟨_, rfl, by unfold cmpN; split <;> (try split) <;> omega⟩
    have hc := cmp_n w2 _ _ A B L K h1.num h2.num
    rw [← hr] at hc
    refine hc.mono ?_
    rintro e w3 ⟨rfl, hf⟩
    replace F := fr_then F hf
    have s3 := hf.size
    replace h1 := h1.keep hf
    replace h2 := h2.keep hf
    clear hc hr hf
    by_cases hone : (dg LB B).length = 1
    · have hBlt : B < LB := by have := lt_pow_dg LB2 B; rw [hone, Nat.pow_one] at this; exact this
      obtain ⟨ad, rfl, hcell, _⟩ := Kd.nat_cell h2.sl (i := 0) (by omega)
      have hy : (dg LB B)[0]'(by omega) = B := by
        have h3 := dg_get LB2 B 0
        rw [List.getD_eq_getElem?_getD, List.getElem?_eq_getElem (by omega)] at h3
        simpa [Nat.mod_eq_of_lt hBlt] using h3
      rw [hy] at hcell
      replace hcell : w3.cell? ad = some (.int .u32 (B : Int)) := by simpa [Addr.add] using hcell
      have HO := Lib.hid hone
      rw [hone]
      have hone1 : (((1 : Nat) : Int) == 1) = true := rfl
      clear hone hy
      go_wp2_with fail
      refine (qshort_n _ _ _ _ B h1.num (by omega) hB0 hBlt).mono ?_
      rintro e w4 ⟨v4, rfl, h4, hf⟩
      replace F := fr_then F hf
      have s4 := hf.size
      have hmod : A % B < B := Nat.mod_lt _ hB0
      have hmod2 : A % B < 4294967296 := Nat.lt_trans hmod hBlt
      clear hf h1 h2
      go_wp2_with fail
      refine (of_n _ (A % B) (by omega)).mono ?_
      rintro e w5 ⟨v5, rfl, h5, hf⟩
      have s5 := hf.size
      go_wp2_with fail
      go_ret3
      exact ⟨v4, v5, rfl, ⟨(h4.keep hf).own.mono fun k hk => by omega, h4.len⟩, .mk (h5.own.mono fun k hk => by omega) (dg_len_le LB2 hmodA), fr_then F hf⟩
    · have hone1 : (((dg LB B).length : Int) == 1) = false := beq_eq_false_iff_ne.2 (by omega)
      obtain ⟨n, hn⟩ : ∃ n, (dg LB B).length = n + 1 := ⟨(dg LB B).length - 1, by omega⟩
      have hn2 : n < (dg LB B).length := by omega
      obtain ⟨ad, hA2, hcell, _⟩ := Kd.nat_cell h2.sl (i := n) hn2
      subst hA2
      obtain ⟨x, hx⟩ : ∃ x, x = (dg LB B)[n] := ⟨_, rfl⟩
      rw [← hx] at hcell
      obtain ⟨s, hs1, hs2, hxl, hvl, hvtop, hvlo, hvhi⟩ := lead_norm hn (hx ▸ List.getElem?_eq_getElem hn2)
      have p1 := lz_calls w3 x hxl
      rw [show (32 : Int) - (blen x : Int) = (s : Int) from by omega] at p1
      have hnd : (dg LB B).length - 1 = n := by omega
      have hcell' : w3.cell? (ad.add ((dg LB B).length - 1)) = some (.int .u32 (x : Int)) := by rw [hnd]; exact hcell
      have P1 := Lib.hid p1
      have HN := Lib.hid (And.intro hn (And.intro hx (And.intro hs1 hnd)))
      clear p1 hn hx hs1 hnd hcell
      go_wp2_with fail
      refine P1.out.mono ?_
      rintro e w' ⟨rfl, rfl⟩
      go_wp2_with fail
      refine (shl_n _ _ _ _ _ h2.num (by omega) (by omega)).mono ?_
      rintro e w4 ⟨v4, rfl, h4, hf⟩
      rw [Int.toNat_natCast] at h4
      replace F := fr_then F hf
      have s4 := hf.size
      replace h1 := h1.keep hf
      obtain ⟨A4, c4, hv4, _, _, _⟩ := h4.sl.slice
      rw [hvl] at hv4
      subst hv4
      have hmn := dg_len_mono LB2 (Nat.le_of_not_lt hlt)
      rw [HN.out.1] at hmn
      have HVL := Lib.hid hvl
      clear hf h2 hcell' hvl
      have hAl : (dg LB A).length ≤ 1048576000 := Nat.le_trans h1.len hl
      have hmk := make_nat 51 Tryz.underlying51 ((dg LB A).length + 1) (by omega)
      rw [show (((dg LB A).length + 1 : Nat) : Int) = ((dg LB A).length : Int) + 1 from by omega] at hmk
      have hrow0 : URow (w4.alloc (.cells (urowOf (List.replicate ((dg LB A).length + 1) 0)) 150)) w4.heap.size (List.replicate ((dg LB A).length + 1) 0) := heap_alloc_new _ _
      have hfa := fun R => (Fr.refl R w4).alloc (.cells (urowOf (List.replicate ((dg LB A).length + 1) 0)) 150)
      have h1a := Can.fr h1 (hfa _)
      have HR0 := Lib.hid hrow0
      have HMK := Lib.hid hmk
      clear hrow0
      go_wp2_with fail
      refine (shl_n _ _ _ _ _ h1a.num (by omega) (by omega)).mono ?_
      rintro e w5 ⟨v5, rfl, h5, hf⟩
      rw [Int.toNat_natCast] at h5
      have hrow5 := HR0.out.fr hf (by simp)
      have s5 := hf.size
      simp only [World.size_alloc] at s5
      have F5 := fr_then (F.alloc (.cells (urowOf (List.replicate ((dg LB A).length + 1) 0)) 150)) hf
      have h4s : Sl Lm (fun k => k < w4.heap.size) w5 (.slice A4 (n + 1) c4) (dg LB (B * 2 ^ s)) := ((h4.sl.up Lm_pos (Nat.le_refl _) (Fr.refl _ _)).fr (hfa _)).fr (hf.mono fun k _ hk => by simp; omega)
      clear hf h1 h1a hfa h4 HR0 hmk HMK
      have hA' : (dg LB (A * 2 ^ s)).length ≤ (dg LB A).length + 1 := by
        refine dg_len_le LB2 ?_
        rw [Nat.pow_succ]
        refine Nat.mul_lt_mul_of_lt_of_le (lt_pow_dg LB2 A) ?_ LBpos
        exact Nat.le_trans (Nat.pow_le_pow_right (by decide) (show s ≤ 32 by omega)) (Nat.le_of_eq rfl)
      have hA0 : 0 < (dg LB (A * 2 ^ s)).length := (dg_len_pos LB2).2 (Nat.mul_pos (by omega) (Nat.pow_pos (by decide)))
      obtain ⟨A5, c5, hv5, _, _, _⟩ := h5.sl.slice
      obtain ⟨ad5, rfl⟩ : ∃ ad5, A5 = some ad5 := by
        obtain ⟨ad5, e, _⟩ := Kd.nat_cell (hv5 ▸ h5.sl) (i := 0) hA0
        exact ⟨ad5, e⟩
      subst hv5
      have hsrc := sl_src h5.sl
      have hcur : w5.heap[w4.heap.size]? = some (.cells ((List.replicate ((dg LB A).length + 1) 0).map fun q : Nat => Value.int .u32 (q : Int)).toArray 150 (0, 0)) := hrow5
      have hcn : ((dg LB (A * 2 ^ s)).map fun q : Nat => Value.int .u32 (q : Int)).length = Nat.min (dg LB (A * 2 ^ s)).length ((dg LB A).length + 1) := by
        rw [List.length_map]; exact (Nat.min_eq_left hA').symm
      have hcf : 0 + ((dg LB (A * 2 ^ s)).map fun q : Nat => Value.int .u32 (q : Int)).length ≤ ((List.replicate ((dg LB A).length + 1) 0).map fun q : Nat => Value.int .u32 (q : Int)).length := by simpa using hA'
      have hco : ∀ v ∈ (dg LB (A * 2 ^ s)).map fun q : Nat => Value.int .u32 (q : Int), v.oneCell' = true := by
        intro v hv
        obtain ⟨q, _, rfl⟩ := List.mem_map.1 hv
        rfl
      have HS := Lib.hid (And.intro hsrc (And.intro hA' (And.intro hcur (And.intro hcn (And.intro hcf hco)))))
      clear hsrc hA' hrow5 h5 hcur hcn hcf hco
      go_wp2_with (refine wpList_copy_splice rfl _ _ _ _ rfl 150 Tryz.underlying51 (by kernel_rfl) _ _ _ _ _ _ rfl rfl w4.heap.size 0 _ 150 HS.out.2.2.1 _ HS.out.2.2.2.1 (fun _ => ⟨rfl, _, rfl, HS.out.1⟩) HS.out.2.2.2.2.1 HS.out.2.2.2.2.2 w4.heap.size w5 (Below.refl _ _) (Nat.le_refl _) ?_; intro w6 hcp hb6)
      have F6 := F5.comp (Fr.of_below hb6) fun k hk h => ⟨h, by omega⟩
      have h4t : Sl Lm (fun k => k < w4.heap.size) w6 (.slice A4 (n + 1) c4) (dg LB (B * 2 ^ s)) := h4s.fr (Fr.of_below hb6)
      have s6 := hb6.size
      obtain ⟨us0, hus0⟩ : ∃ us0, us0 = dg LB (A * 2 ^ s) ++ List.replicate ((dg LB A).length + 1 - (dg LB (A * 2 ^ s)).length) 0 := ⟨_, rfl⟩
      have hrow6 : URow w6 w4.heap.size us0 := by
        have h := hcp.out
        have e : splice ((List.replicate ((dg LB A).length + 1) 0).map fun q : Nat => Value.int .u32 (q : Int)) 0 ((dg LB (A * 2 ^ s)).map fun q : Nat => Value.int .u32 (q : Int)) = us0.map fun q : Nat => Value.int .u32 (q : Int) := by
          rw [hus0]; simp [splice]
        rw [e] at h
        exact h
      clear hcp hb6 h4s
      obtain ⟨m, hm⟩ : ∃ m, (dg LB A).length = m + n := ⟨(dg LB A).length - n, by omega⟩
      have hm1 : 1 ≤ m := by omega
      have hmb2 : m ≤ 1048576000 := by omega
      have hmk2 := make_nat 52 Tryz.underlying52 m (by omega)
      have hcast : ((dg LB A).length : Int) - ((n : Int) + 1) + 1 = (m : Int) := by omega
      have hrow7 : URow (w6.alloc (.cells (urowOf (List.replicate m 0)) 150)) w4.heap.size us0 := (Below.heap_alloc w6 _ _ hrow6.lt).trans hrow6
      have hq7 : URow (w6.alloc (.cells (urowOf (List.replicate m 0)) 150)) w6.heap.size (List.replicate m 0) := heap_alloc_new _ _
      have F7 := F6.alloc (.cells (urowOf (List.replicate m 0)) 150)
      have h4u : Sl Lm (fun k => k < w4.heap.size) (w6.alloc (.cells (urowOf (List.replicate m 0)) 150)) (.slice A4 (n + 1) c4) (dg LB (B * 2 ^ s)) := h4t.fr ((Fr.refl _ _).alloc _)
      have H7 := Lib.hid (And.intro hrow7 (And.intro hq7 (And.intro F7 h4u)))
      have HU := Lib.hid hus0
      have HM := Lib.hid hm
      have HC := Lib.hid hcast
      clear hrow7 hq7 F7 h4u hus0 hm hrow6 F6 h4t hcast
      go_wp2_with fail
      rw [HC.out, hmk2]
      go_wp2_with fail
      have hV0 : 0 < B * 2 ^ s := Nat.mul_pos hB0 (Nat.pow_pos (by decide))
      have hD0 : DivN (A * 2 ^ s) (B * 2 ^ s) (n + 1) m m us0 (List.replicate m 0) := by
        have hz : ∀ r, val (List.replicate r 0) = 0 := fun r => ofB_replicate LB r
        have hv0 : val us0 = A * 2 ^ s := by
          rw [HU.out]
          show ofB LB (_ ++ _) = _
          rw [ofB_append, show ofB LB (List.replicate _ 0) = 0 from hz _, Nat.mul_zero, Nat.add_zero]
          exact val_dg _
        have hul : us0.length = m + (n + 1) := by
          rw [HU.out, List.length_append, List.length_replicate]
          have := HS.out.2.1
          have := HM.out
          omega
        refine ⟨hul, ?_, by simp, fun d hd => by rw [List.eq_of_mem_replicate hd]; exact LBpos, ?_, ?_⟩
        · intro d hd
          rw [HU.out] at hd
          rcases List.mem_append.1 hd with h | h
          · exact dg_lt LB2 _ d h
          · rw [List.eq_of_mem_replicate h]; exact LBpos
        · have h1 := val_split us0 m (by omega)
          have h2 : A * 2 ^ s < LB ^ m * LB ^ n * 2 ^ s := by
            rw [← Nat.pow_add, ← HM.out]
            exact Nat.mul_lt_mul_of_pos_right (lt_pow_dg LB2 A) (Nat.pow_pos (by decide))
          have h3 := Nat.mul_le_mul_left (LB ^ m) hvlo
          have h4 : LB ^ m * LB ^ n * 2 ^ s = LB ^ m * (2 ^ s * LB ^ n) := by rw [Nat.mul_assoc, Nat.mul_comm (LB ^ n)]
          refine Nat.lt_of_mul_lt_mul_left (a := LB ^ m) ?_
          omega
        · rw [List.drop_of_length_le (by simp), hv0]
          simp [val, ofB]
      have hvhi' : B * 2 ^ s < LB ^ (n + 1) := hvhi
      obtain ⟨V, hV⟩ : ∃ V, V = B * 2 ^ s := ⟨_, rfl⟩
      obtain ⟨A', hA'⟩ : ∃ A', A' = A * 2 ^ s := ⟨_, rfl⟩
      rw [← hV] at hV0 hD0 hvhi' hvtop
      rw [← hA'] at hD0
      have hlen4 := HVL.out
      rw [← hV] at hlen4
      have H7' : Sl Lm (fun k => k < w4.heap.size) (w6.alloc (.cells (urowOf (List.replicate m 0)) 150)) (.slice A4 (n + 1) c4) (dg LB V) := by rw [hV]; exact H7.out.2.2.2
      have HVA := Lib.hid (And.intro hV hA')
      have HL4 := Lib.hid hlen4
      have hmb : m + n ≤ 1048576000 := by rw [← HM.out]; exact hAl
      clear hV hA' hlen4
      go_loopw [14, 15, 16] (fun i _ _ wr => ∃ (k : Nat) (us qs : List Nat), k ≤ m ∧ i = .int .i64 ((k : Int) - 1) ∧ DivN A' V (n + 1) m k us qs ∧ URow wr w4.heap.size us ∧ URow wr w6.heap.size qs ∧ Sl Lm (fun k => k < w4.heap.size) wr (.slice A4 (n + 1) c4) (dg LB V) ∧ Fr (fun k => k < w.heap.size) w wr) (fun i _ _ _ => (intOf i + 1).toNat)
      case atStart => exact ⟨m, us0, _, Nat.le_refl _, rfl, hD0, H7.out.1, H7.out.2.1, H7', H7.out.2.2.1⟩
      case round =>
        clear hD0 H7 H7'
        obtain ⟨k, us, qs, hk, rfl, hD, hru, hrq, hsv, hfr⟩ := hrel
        by_cases h0 : 0 < k
        · obtain ⟨j, rfl⟩ : ∃ j, k = j + 1 := ⟨k - 1, by omega⟩
          have hjm : j < m := by omega
          have hidx : ((j + 1 : Nat) : Int) - 1 = (j : Int) := by omega
          rw [hidx]
          have hla1 : j + (n + 1) + 1 ≤ (dg LB A).length + 1 := by have := HM.out; omega
          have hla2 : n + 1 + 1 ≤ (dg LB A).length + 1 - j := by omega
          obtain ⟨U, hU⟩ : ∃ U, U = val ((us.drop j).take (n + 1 + 1)) := ⟨_, rfl⟩
          have hul := hD.ulen
          have hpart := hD.part hvhi' hjm
          have hUV : U < LB * V := by rw [hU]; exact hpart.2
          have hq : U / V < LB := (Nat.div_lt_iff_lt_mul hV0).2 hUV
          have hsp := hru.part (S := fun _ => True) trivial hD.usm (j := j) (n := n + 1 + 1) (c := (dg LB A).length + 1 - j) (by omega) (by omega) (by omega)
          have hn1' : 1 ≤ n := by have := HN.out.1; omega
          have pg := guess_calls wr _ _ _ _ hsp hsv (by rw [HL4.out]; omega) (by rw [HL4.out]; simp; omega) (by rw [HL4.out]; exact hvtop) (by rw [← hU, val_dg]; exact hUV)
          rw [← hU, val_dg] at pg
          have HU2 := Lib.hid hU
          have PG := Lib.hid pg
          clear hpart hU pg hsp
          go_wp2_with fail
          rw [show j + (n + 1) + 1 - j = n + 1 + 1 from by omega]
          refine PG.out.mono ?_
          rintro e w7 ⟨⟨g, rfl, hg1, hg2⟩, hf7⟩
          have hru7 := hru.fr hf7 trivial
          have hrq7 := hrq.fr hf7 trivial
          have hsv7 := hsv.fr (hf7.mono fun _ _ _ => trivial)
          have hfr7 := hfr.comp hf7 fun k hk h => ⟨h, trivial⟩
          have hne : w4.heap.size ≠ w6.heap.size := by omega
          have pt := take_calls w7 w4.heap.size j ((dg LB A).length + 1 - j) (.slice A4 (n + 1) c4) us (dg LB V) g hru7 hD.usm (hsv7.mono fun k hk => by omega) (by rw [HL4.out]; omega) (by omega) (by omega)
          rw [HL4.out, val_dg, ← HU2.out] at pt
          have PT := Lib.hid pt
          clear hru hrq hsv hfr pt PG
          go_wp2_with fail
          refine PT.out.mono ?_
          rintro e w8 ⟨ds, b, rfl, hdl, hds, hru8, hsum8, hf8⟩
          have hrq8 := hrq7.fr hf8 hne.symm
          have hsv8 := hsv7.fr (hf8.mono fun k _ hk => by omega)
          have hfr8 := hfr7.comp hf8 fun k hk h => ⟨h, by omega⟩
          clear hru7 hrq7 hsv7 hfr7 hf7 hf8 PT
          have hdlt := ofB_lt hds
          rw [hdl] at hdlt
          have htd := take_done (b := if b then 1 else 0) hg1 hg2 hV0 hdlt (by cases b <;> simp) hsum8
          cases b with
          | false =>
            obtain ⟨rfl, hdv⟩ := htd.1 rfl
            have hst := hD.step hvhi' hV0 hjm hdl hds (by rw [← HU2.out]; exact hdv)
            rw [← HU2.out] at hst
            obtain ⟨uq, hcell⟩ : ∃ u, w8.cell? ⟨w6.heap.size, j, none⟩ = some u := ⟨_, hrq8.cell (j := j) (by rw [hD.qlen]; exact hjm)⟩
            have hfree := hrq8.free j
            have hqlt := hrq8.lt
            have hq4 : U / V < 4294967296 := hq
            obtain ⟨q, hqq⟩ : ∃ q, q = U / V := ⟨_, rfl⟩
            rw [← hqq] at hst hq4 ⊢
            have HST := Lib.hid hst
            clear hst htd hdv hsum8 hqq hg1 hg2
            go_wp2_with fail
            go_roundw
            case rel =>
              refine ⟨j, _, _, by omega, by go_num, HST.out, hru8.far hne _ _, hrq8.set j q, hsv8.fr ((Fr.refl _ _).setCell (p := ⟨w6.heap.size, j, none⟩) (fun _ h => by simp at h; omega) _), hfr8.setCell (p := ⟨w6.heap.size, j, none⟩) (fun _ h => by simp at h; omega) _⟩
            case measure => first | (simp [intOf]; done) | (simp [intOf]; omega)
          | true =>
            obtain ⟨rfl, hmodv⟩ := htd.2 rfl
            have hus8 : ∀ d ∈ us.take j ++ ds ++ us.drop (j + (n + 1 + 1)), d < LB := by
              intro d hm
              rcases List.mem_append.1 hm with hm | hm
              · rcases List.mem_append.1 hm with hm | hm
                · exact hD.usm d (List.mem_of_mem_take hm)
                · exact hds d hm
              · exact hD.usm d (List.mem_of_mem_drop hm)
            have hul8 : (us.take j ++ ds ++ us.drop (j + (n + 1 + 1))).length = us.length := by
              have := len_mid us ds j (by omega)
              rwa [hdl] at this
            have hpt8 : ((us.take j ++ ds ++ us.drop (j + (n + 1 + 1))).drop j).take (n + 1 + 1) = ds := by
              rw [drop_mid us ds j _ (by omega), ← hdl, List.take_left']
              rfl
            have pb := back_calls w8 w4.heap.size j ((dg LB A).length + 1 - j) (.slice A4 (n + 1) c4) _ (dg LB V) hru8 hus8 (hsv8.mono fun k hk => by omega) (by rw [HL4.out, hul8]; omega) (by rw [hul8]; omega)
            rw [HL4.out, hpt8, val_dg, take_mid us ds j _ (by omega)] at pb
            have hdr8 : (us.take j ++ ds ++ us.drop (j + (n + 1 + 1))).drop (j + (n + 1 + 1)) = us.drop (j + (n + 1 + 1)) := by
              rw [← List.drop_drop, drop_mid us ds j _ (by omega), ← hdl, List.drop_left']
              rfl
            rw [hdr8] at pb
            have PB := Lib.hid pb
            have HMV := Lib.hid (show (val ds + V) % LB ^ (n + 1 + 1) = U % V from by
              have h1 : U % V < LB ^ (n + 1 + 1) := Nat.lt_trans (Nat.mod_lt _ hV0) (Nat.lt_trans hvhi' (Nat.pow_lt_pow_right (by decide) (by omega)))
              rw [Nat.mod_eq_of_lt h1] at hmodv
              exact hmodv)
            obtain ⟨q, hqq⟩ : ∃ q, q = U / V := ⟨_, rfl⟩
            have hq4 : q < 4294967296 := by rw [hqq]; exact hq
            rw [← hqq]
            have HQ := Lib.hid hqq
            clear pb hdr8 hpt8 hul8 hus8 hmodv htd hsum8 hru8 hqq hg1 hg2 hq
            go_wp2_with fail
            refine PB.out.mono ?_
            rintro e w9 ⟨rfl, ds9, hdl9, hds9, hru9, hsum9, hf9⟩
            have hrq9 := hrq8.fr hf9 hne.symm
            have hsv9 := hsv8.fr (hf9.mono fun k _ hk => by omega)
            have hfr9 := hfr8.comp hf9 fun k hk h => ⟨h, by omega⟩
            have hst := hD.step hvhi' hV0 hjm hdl9 hds9 (by rw [← HU2.out, hsum9]; exact HMV.out)
            rw [← HU2.out, ← HQ.out] at hst
            obtain ⟨uq, hcell⟩ : ∃ u, w9.cell? ⟨w6.heap.size, j, none⟩ = some u := ⟨_, hrq9.cell (j := j) (by rw [hD.qlen]; exact hjm)⟩
            have hfree := hrq9.free j
            have hqlt := hrq9.lt
            have HST := Lib.hid hst
            clear hst hsum9
            go_wp2_with fail
            go_roundw
            case rel =>
              refine ⟨j, _, _, by omega, by go_num, HST.out, hru9.far hne _ _, ?_, hsv9.fr ((Fr.refl _ _).setCell (p := ⟨w6.heap.size, j, none⟩) (fun _ h => by simp at h; omega) _), hfr9.setCell (p := ⟨w6.heap.size, j, none⟩) (fun _ h => by simp at h; omega) _⟩
              exact hrq9.set j q
            case measure => first | (simp [intOf]; done) | (simp [intOf]; omega)
        · obtain rfl : k = 0 := by omega
          obtain ⟨hdq, hdr⟩ := hD.done
          have hpow : 0 < 2 ^ s := Nat.pow_pos (by decide)
          rw [HVA.out.1, HVA.out.2, Nat.mul_div_mul_right A B hpow] at hdq
          rw [HVA.out.1, HVA.out.2, Nat.mul_mod_mul_right] at hdr
          have hoq := hrq.own (S := fun k => w.heap.size ≤ k) (by omega) hD.qsm (by rw [hD.qlen]; omega)
          rw [hD.qlen] at hoq
          have hou := hru.own (S := fun k => w.heap.size ≤ k) (by omega) hD.usm (by rw [hD.ulen]; omega)
          rw [show us.length = (dg LB A).length + 1 from by have := hD.ulen; have := HM.out; omega] at hou
          have nq : Num (fun k => w.heap.size ≤ k) wr (.slice (some ⟨w6.heap.size, 0, none⟩) m m) (A / B) m := ⟨qs, hoq.sl, hdq, by rw [hD.qlen]; exact Nat.le_refl _⟩
          have nu : Num (fun k => w.heap.size ≤ k) wr (.slice (some ⟨w4.heap.size, 0, none⟩) ((dg LB A).length + 1) ((dg LB A).length + 1)) (A % B * 2 ^ s) ((dg LB A).length + 1) := ⟨us, hou.sl, hdr, by have := hD.ulen; have := HM.out; omega⟩
          have hs0 := hfr.size
          clear hdq hdr hoq hou hD hru hrq hsv
          go_wp2_with fail
          refine (trim_n _ _ _ _ nq (by omega)).mono ?_
          rintro e w7 ⟨v7, rfl, h7, hf7⟩
          replace nu := nu.keep hf7
          have hs7 := hf7.size
          go_wp2_with fail
          refine (trim_n _ _ _ _ nu (by omega)).mono ?_
          rintro e w8 ⟨v8, rfl, h8, hf8⟩
          replace h7 := h7.keep hf8
          have hs8 := hf8.size
          go_wp2_with fail
          refine (shr_n _ _ _ _ _ h8.num (by omega) (by omega)).mono ?_
          rintro e w9 ⟨v9, rfl, h9, hf9⟩
          rw [Int.toNat_natCast, Nat.mul_div_cancel _ hpow] at h9
          replace h7 := h7.keep hf9
          go_wp2_with fail
          go_ret3
          exact ⟨v7, v9, rfl, .mk (h7.own.mono fun k hk => by omega) (dg_len_le LB2 (Nat.lt_of_le_of_lt (Nat.div_le_self _ _) hAlt)), .mk (h9.own.mono fun k hk => by omega) (dg_len_le LB2 hmodA), fr_then (fr_then (fr_then hfr hf7) hf8) hf9⟩
end Go.Proofs.YtlppcfeimpcbjaaGreat


/- quo.Gcd, Pow, Divides; is, known. -/
namespace Go.Proofs.YtlppcfeimpcbjaaGreat
open Go.RowKit

theorem Num.nil (S : Nat → Prop) (w : World) (L : Nat) : Num S w (.slice none 0 0) 0 L := ⟨[], Sl.nil _ _ _, rfl, Nat.zero_le _⟩
theorem Can.mono {S T : Nat → Prop} {w : World} {v : Value} {N L : Nat} (h : Can S w v N L) (hs : ∀ k, S k → T k) : Can T w v N L := ⟨h.own.mono hs, h.len⟩
theorem Can.wide {S : Nat → Prop} {w : World} {v : Value} {N L K : Nat} (h : Can S w v N L) (hl : L ≤ K) : Can S w v N K := ⟨h.own, Nat.le_trans h.len hl⟩
theorem Num.wide {S : Nat → Prop} {w : World} {v : Value} {N L K : Nat} (h : Num S w v N L) (hl : L ≤ K) : Num S w v N K := by
  obtain ⟨xs, h1, h2, h3⟩ := h
  exact ⟨xs, h1, h2, Nat.le_trans h3 hl⟩

set_option maxHeartbeats 2000000 in
theorem gcd_n {S T : Nat → Prop} (w : World) (va vb : Value) (A B L : Nat) (ha : Num S w va A L) (hb : Num T w vb B L) (hl : L ≤ 1048576000) :
    Calls Tryz.prog 132 #[va, vb] w fun e w' => ∃ v, e = .returned v ∧ Can (fun k => w.heap.size ≤ k) w' v (Nat.gcd A B) L ∧ Fr (fun k => k < w.heap.size) w w' := by
  go_enter Tryz.func132, Tryz.ntmps132
  go_wp2_with fail
  refine (trim_n _ _ _ _ ha (by omega)).mono ?_
  rintro e w1 ⟨v1, rfl, h1, hf⟩
  have F := hf
  replace hb := hb.keep hf; clear hf ha
  go_wp2_with fail
  refine (trim_n _ _ _ _ hb (by omega)).mono ?_
  rintro e w2 ⟨v2, rfl, h2, hf⟩
  have s1 := F.size
  replace F := fr_then F hf
  replace h1 := h1.keep hf
  replace h2 : Can (fun k => w.heap.size ≤ k) w2 v2 B L := h2.mono fun k hk => by omega
  clear hf hb
  go_wp2_with fail
  go_loopg [0, 1, 5, 6, 7] B (fun N a b _ _ _ wr => ∃ M, Can (fun k => w.heap.size ≤ k) wr a M L ∧ Can (fun k => w.heap.size ≤ k) wr b N L ∧ Nat.gcd M N = Nat.gcd A B ∧ Fr (fun k => k < w.heap.size) w wr)
  case atStart => exact ⟨A, h1, h2, rfl, F⟩
  case round =>
    clear h1 h2 F
    obtain ⟨M, h1, h2, hg, F⟩ := hrel
    obtain ⟨A2, c2, hv2, _, _, _⟩ := h2.sl.slice
    subst hv2
    have HG := Lib.hid hg
    clear hg
    by_cases h0 : 0 < gk
    · have hpos := (dg_len_pos LB2).2 h0
      go_wp2_with fail
      refine (divmod_n _ _ _ _ _ _ _ h1.num h2.num h0 hl hl).mono ?_
      rintro e w3 ⟨q, r, rfl, hq, hr, hf⟩
      have s3 := F.size
      go_wp2_with fail
      go_roundg (M % gk)
      case rel => exact ⟨gk, h2.keep hf, hr.mono fun k hk => by omega, by rw [← HG.out, Nat.gcd_comm gk, ← Nat.gcd_rec, Nat.gcd_comm], fr_then F hf⟩
      case measure => exact Nat.mod_lt _ h0
    · obtain rfl : gk = 0 := by omega
      rw [dg_zero]
      have hg0 := HG.out
      rw [Nat.gcd_zero_right] at hg0
      have HG0 := Lib.hid hg0
      clear hg0 h2
      go_wp2_with fail
      go_ret
      exact ⟨_, rfl, by rw [← HG0.out]; exact h1, F⟩

theorem and1i {x : Int} (h0 : 0 ≤ x) (h1 : x < 9223372036854775808) : bits .and .i64 x 1 = x % 2 :=
  bits_mask .i64 63 (by decide) (fun n h0 h1 => by rw [IntKind.wrap_i64]; omega) 1 (by decide) x h0 (by simpa using h1)

theorem pow_step (M N k : Nat) : N * M ^ k = (if k % 2 = 1 then N * M else N) * (M * M) ^ (k / 2) := by
  have h := Nat.mod_add_div k 2
  have e : (M * M) ^ (k / 2) = M ^ (2 * (k / 2)) := by rw [Nat.pow_mul, Nat.pow_two]
  rw [e]
  rcases Nat.mod_two_eq_zero_or_one k with h2 | h2
  · rw [h2] at h ⊢
    rw [if_neg (by decide), show 2 * (k / 2) = k by omega]
  · rw [h2] at h ⊢
    rw [if_pos rfl, Nat.mul_assoc, ← Nat.pow_succ', show (2 * (k / 2)).succ = k by omega]
/-- a number that is a factor of one that is small is small itself, or the one is 0 -/
theorem fac_lt {M N P X : Nat} (h : N * M ^ P < X) (hP : 0 < P) (hN : 0 < N) : M < X := by
  rcases Nat.eq_zero_or_pos M with rfl | hM
  · exact Nat.lt_of_le_of_lt (Nat.zero_le _) h
  · have h1 : M ≤ M ^ P := Nat.le_self_pow (by omega) M
    have h2 := Nat.le_mul_of_pos_left (M ^ P) hN
    omega

end Go.Proofs.YtlppcfeimpcbjaaGreat


/- known of the second chapter. -/
namespace Go.Proofs.YtlppcfeimpcbjaaGreat
open Go.RowKit

theorem small_1 (w : World) : Calls Tryz.prog 113 #[.int .i64 1] w fun e w' => ∃ v, e = .returned v ∧ RC (fun k => w.heap.size ≤ k) w' v 1 1 ∧ Fr (fun k => k < w.heap.size) w w' := small_r w 1 1 (by decide) (by decide)
theorem small_5 (w : World) : Calls Tryz.prog 113 #[.int .i64 5] w fun e w' => ∃ v, e = .returned v ∧ RC (fun k => w.heap.size ≤ k) w' v 5 1 ∧ Fr (fun k => k < w.heap.size) w w' := small_r w 5 1 (by decide) (by decide)
theorem small_6 (w : World) : Calls Tryz.prog 113 #[.int .i64 6] w fun e w' => ∃ v, e = .returned v ∧ RC (fun k => w.heap.size ≤ k) w' v 6 1 ∧ Fr (fun k => k < w.heap.size) w w' := small_r w 6 1 (by decide) (by decide)
theorem small_343 (w : World) : Calls Tryz.prog 113 #[.int .i64 343] w fun e w' => ∃ v, e = .returned v ∧ RC (fun k => w.heap.size ≤ k) w' v 343 1 ∧ Fr (fun k => k < w.heap.size) w w' := small_r w 343 1 (by decide) (by decide)
theorem of_lit (w : World) (n : Nat) (i : Int) (h : i = n) (hn : n < 18446744073709551616) : Calls Tryz.prog 135 #[.int .u64 i] w fun e w' => ∃ v, e = .returned v ∧ Can (fun k => w.heap.size ≤ k) w' v n 2 ∧ Fr (fun k => k < w.heap.size) w w' := by
  subst h; exact of_n w n hn
theorem num_lit {w : World} {t : TypeId} {b : Nat} (xs : List Nat) (cells : List Value) (N : Nat) (hN : val xs = N) (hc : cells = xs.map (fun x => .int .u32 (x : Int))) (hx : ∀ x ∈ xs, x < LB) (hl : xs.length ≤ 3) (hb : w.heap[b]? = some (.cells cells.toArray t)) :
    Num (fun k => k < w.heap.size) w (.slice (some ⟨b, 0, none⟩) xs.length xs.length) N 3 := ⟨xs, sl_lit xs cells hc hx (by omega) hb, hN, hl⟩

end Go.Proofs.YtlppcfeimpcbjaaGreat


/- QuoParts, QuoBack, QuoSteps. -/
namespace Go.Proofs.YtlppcfeimpcbjaaGreat
open Go.RowKit

theorem cmp_lt {S T : Nat → Prop} (w : World) (va vb : Value) (M N L K : Nat) (ha : Num S w va M L) (hb : Num T w vb N K) (h : M < N) :
    Calls Tryz.prog 136 #[va, vb] w fun e w' => e = .returned (.int .i64 (-1)) ∧ Fr (fun k => k < w.heap.size) w w' := by
  have := cmp_n w va vb M N L K ha hb
  rwa [show cmpN M N = -1 from if_pos h] at this
theorem cmp_eq {S T : Nat → Prop} (w : World) (va vb : Value) (M N L K : Nat) (ha : Num S w va M L) (hb : Num T w vb N K) (h : M = N) :
    Calls Tryz.prog 136 #[va, vb] w fun e w' => e = .returned (.int .i64 0) ∧ Fr (fun k => k < w.heap.size) w w' := by
  subst h
  have := cmp_n w va vb M M L K ha hb
  rwa [show cmpN M M = 0 from by unfold cmpN; simp] at this
theorem cmp_ge {S T : Nat → Prop} (w : World) (va vb : Value) (M N L K : Nat) (ha : Num S w va M L) (hb : Num T w vb N K) (h : N ≤ M) :
    Calls Tryz.prog 136 #[va, vb] w fun e w' => (∃ r : Int, 0 ≤ r ∧ e = .returned (.int .i64 r)) ∧ Fr (fun k => k < w.heap.size) w w' := by
  refine (cmp_n w va vb M N L K ha hb).mono ?_
  rintro e w' ⟨rfl, hf⟩
  exact ⟨⟨_, by unfold cmpN; split <;> (try split) <;> omega, rfl⟩, hf⟩

end Go.Proofs.YtlppcfeimpcbjaaGreat


/- QuoBack, QuoCommon, QuoSums. -/
namespace Go.Proofs.YtlppcfeimpcbjaaGreat
open Go.RowKit

theorem Num.tight {S : Nat → Prop} {w : World} {A : Option Addr} {n c N L : Nat} (h : Num S w (.slice A n c) N L) : Num S w (.slice A n c) N n := by
  obtain ⟨xs, h1, h2, h3⟩ := h
  obtain ⟨A', c', e, _⟩ := h1.slice
  cases e
  exact ⟨xs, h1, h2, Nat.le_refl _⟩
theorem pow_room' {a k X : Nat} (ha : a < LB ^ 4) (hk : 4 * k < X) : a ^ k < LB ^ X := by
  have h1 : a ^ k ≤ LB ^ (4 * k) := by rw [Nat.pow_mul]; exact Nat.pow_le_pow_left (Nat.le_of_lt ha) k
  exact Nat.lt_of_le_of_lt h1 (Nat.pow_lt_pow_right LB2 hk)

end Go.Proofs.YtlppcfeimpcbjaaGreat


/- The reference of the second chapter: digit, Gcd, Pow (DivMod is not there yet). -/
namespace Go.Proofs.YtlppcfeimpcbjaaGreat
open Go.RowKit

theorem cmp_r_le {S T : Nat → Prop} (w : World) (va vb : Value) (M N L K : Nat) (ha : RC S w va M L) (hb : RC T w vb N K) (h : M ≤ N) :
    Calls Tryz.prog 83 #[va, vb] w fun e w' => (∃ r : Int, r ≤ 0 ∧ e = .returned (.int .i64 r)) ∧ Fr (fun k => k < w.heap.size) w w' := by
  refine (cmp_r' w va vb M N L K ha hb).mono ?_
  rintro e w' ⟨rfl, hf⟩
  exact ⟨⟨_, by unfold cmpN; split <;> (try split) <;> omega, rfl⟩, hf⟩
theorem cmp_r_gt {S T : Nat → Prop} (w : World) (va vb : Value) (M N L K : Nat) (ha : RC S w va M L) (hb : RC T w vb N K) (h : N < M) :
    Calls Tryz.prog 83 #[va, vb] w fun e w' => e = .returned (.int .i64 1) ∧ Fr (fun k => k < w.heap.size) w w' := by
  have := cmp_r' w va vb M N L K ha hb
  rwa [show cmpN M N = 1 from by unfold cmpN; rw [if_neg (by omega), if_pos h]] at this

set_option maxHeartbeats 2000000 in
theorem digit_r {S T : Nat → Prop} (w : World) (va vb : Value) (N B L : Nat) (ha : RC S w va N L) (hb : RC T w vb B L) (hl : L ≤ 1099511620) (hlt : N < B * 10000) :
    Calls Tryz.prog 138 #[va, vb] w fun e w' => e = .returned (.int .i64 ((N / B : Nat) : Int)) ∧ Fr (fun k => k < w.heap.size) w w' := by
  have ha' : RC (fun _ => True) w va N L := ha.mono fun _ _ => trivial
  have hb' : RC (fun _ => True) w vb B L := hb.mono fun _ _ => trivial
  have HA := Lib.hid (And.intro ha' hb')
  clear ha hb ha' hb'
  go_enter Tryz.func138, Tryz.ntmps138
  go_wp2_with fail
  go_loopw [5, 6, 7] (fun lo hi _ wr => ∃ (l h : Nat), lo = .int .i64 l ∧ hi = .int .i64 h ∧ l < h ∧ h ≤ 10000 ∧ Hid (B * l ≤ N ∧ N < B * h) ∧ RC (fun _ => True) wr va N L ∧ RC (fun _ => True) wr vb B L ∧ Fr (fun k => k < w.heap.size) w wr) (fun lo hi _ _ => (intOf hi - intOf lo).toNat)
  case atStart => exact ⟨0, 10000, rfl, rfl, by omega, by omega, ⟨by simp, hlt⟩, HA.out.1, HA.out.2, Fr.refl _ _⟩
  case round =>
    obtain ⟨l, h, rfl, rfl, hlh, hh, hb, ha, hv, F⟩ := hrel
    by_cases h1 : l + 1 < h
    · obtain ⟨m, hm⟩ : ∃ m, m = (l + h) / 2 := ⟨_, rfl⟩
      have hmi : ((l : Int) + (h : Int)) / 2 = (m : Int) := by omega
      have hml : l < m ∧ m < h := by omega
      have HM := Lib.hid hmi
      clear hm hmi
      go_wp2_with fail
      rw [HM.out]
      refine (times_r _ _ _ _ m hv (by omega) (by omega)).mono ?_
      rintro e w1 ⟨v1, rfl, hp, hf⟩
      replace F := fr_then F hf
      replace ha := ha.keep hf; replace hv := hv.keep hf
      clear hf
      go_wp2_with fail
      by_cases hle : B * m ≤ N
      · refine (cmp_r_le _ _ _ _ _ _ _ hp ha hle).mono ?_
        rintro e w2 ⟨⟨r, hr, rfl⟩, hf⟩
        go_wp2_with fail
        go_roundw
        case rel => exact ⟨m, h, by go_num, rfl, hml.2, hh, ⟨hle, hb.out.2⟩, ha.keep hf, hv.keep hf, fr_then F hf⟩
        case measure => first | (simp [intOf]; done) | (simp [intOf]; omega)
      · refine (cmp_r_gt _ _ _ _ _ _ _ hp ha (by omega)).mono ?_
        rintro e w2 ⟨rfl, hf⟩
        go_wp2_with fail
        go_roundw
        case rel => exact ⟨l, m, rfl, by go_num, hml.1, by omega, ⟨hb.out.1, by omega⟩, ha.keep hf, hv.keep hf, fr_then F hf⟩
        case measure => first | (simp [intOf]; done) | (simp [intOf]; omega)
    · have hq : N / B = l := by
        have h2 := hb.out
        rw [show h = l + 1 by omega] at h2
        exact Nat.div_eq_of_lt_le (by rw [Nat.mul_comm]; exact h2.1) (by rw [Nat.mul_comm]; exact h2.2)
      have HQ := Lib.hid hq
      clear hq
      go_wp2_with fail
      go_ret
      exact ⟨congrArg (fun n : Nat => Ending.returned (.int .i64 (n : Int))) HQ.out.symm, F⟩

end Go.Proofs.YtlppcfeimpcbjaaGreat


/- QuoPowers. -/
namespace Go.Proofs.YtlppcfeimpcbjaaGreat
open Go.RowKit

theorem pow_room6 {a k X : Nat} (ha : a < LB ^ 6) (hk : 6 * k < X) : a ^ k < LB ^ X := by
  have h1 : a ^ k ≤ LB ^ (6 * k) := by rw [Nat.pow_mul]; exact Nat.pow_le_pow_left (Nat.le_of_lt ha) k
  exact Nat.lt_of_le_of_lt h1 (Nat.pow_lt_pow_right LB2 hk)
theorem pow_roomD {a k L X : Nat} (ha : a < DB ^ L) (hk : L * k < X) : a ^ k < DB ^ X := by
  have h1 : a ^ k ≤ DB ^ (L * k) := by rw [Nat.pow_mul]; exact Nat.pow_le_pow_left (Nat.le_of_lt ha) k
  exact Nat.lt_of_le_of_lt h1 (Nat.pow_lt_pow_right DB2 hk)

end Go.Proofs.YtlppcfeimpcbjaaGreat


/- The reference's DivMod. -/
namespace Go.Proofs.YtlppcfeimpcbjaaGreat
open Go.RowKit

set_option maxHeartbeats 400000 in
theorem rtrim2_calls {S : Nat → Prop} (w : World) (v : Value) (xs : List Nat) (h : Own Dg 3 S w v xs) :
    Calls Tryz.prog 137 #[v] w fun e w' => ∃ v, e = .returned v ∧ Own Dg 3 S w v (dg DB (ofB DB xs)) ∧ w' = w := by
  have hs := h.sl
  have hd := Kd.nat_all hs
  obtain ⟨A, c, rfl, hcap, hmax, hlen⟩ := hs.slice
  have H := Lib.hid h
  have HS := Lib.hid hs
  clear h hs
  go_enter Tryz.func137, Tryz.ntmps137
  go_wp2
  go_loop [3] (fun n => ∃ k : Nat, k ≤ xs.length ∧ n = .int .i64 k ∧ Hid (∀ j, k ≤ j → j < xs.length → xs[j]? = some 0)) (fun n => (intOf n).toNat)
  case atStart => exact ⟨xs.length, Nat.le_refl _, rfl, fun j h1 h2 => by omega⟩
  case round =>
    obtain ⟨k, hk, rfl, hz⟩ := hrel
    have hkc : (k : Int) ≤ (c : Int) := by omega
    by_cases h0 : 0 < k
    · obtain ⟨ad, rfl, hx, _⟩ := Kd.nat_cell HS.out (i := k - 1) (by omega)
      by_cases hx0 : xs[k-1]'(by omega) = 0
      · rw [hx0] at hx
        have HX := Lib.hid hx0
        clear hx0
        go_wp2
        go_round
        case rel =>
          refine ⟨k - 1, by omega, by go_num, fun j h1 h2 => ?_⟩
          by_cases e : j = k - 1
          · subst e; rw [List.getElem?_eq_getElem h2, HX.out]
          · exact hz.out j (by omega) h2
        case measure => simp [intOf]; omega
      · have hb : (((xs[k-1]'(by omega) : Nat) : Int) == 0) = false := by simpa using hx0
        have HX := Lib.hid hx0
        clear hx0
        go_wp2
        go_ret
        have ht := dg_top DB2 hd hk hz.out (fun _ => by rw [List.getElem?_eq_getElem (by omega)]; simpa using HX.out)
        exact ⟨_, rfl, by rw [← ht.1]; exact H.out.take hk, rfl⟩
    · go_wp2
      go_ret
      have ht := dg_top DB2 hd hk hz.out (fun h => absurd h h0)
      exact ⟨_, rfl, by rw [← ht.1]; exact H.out.take hk, rfl⟩


set_option maxHeartbeats 2000000 in
theorem dm_r {S T : Nat → Prop} (w : World) (va vb : Value) (A B L K : Nat) (ha : RC S w va A L) (hb : RC T w vb B K) (hl : L ≤ 1048576000) (hk : K ≤ 1048576000) (hB : 0 < B) :
    Calls Tryz.prog 115 #[va, vb] w fun e w' => ∃ q r, e = .returned (.tuple #[q, r]) ∧ RC (fun k => w.heap.size ≤ k) w' q (A / B) L ∧ RC (fun k => w.heap.size ≤ k) w' r (A % B) K ∧ Fr (fun k => k < w.heap.size) w w' := by
  have hlt := ha.lt
  have hBlt := hb.lt
  have hxl := Nat.le_trans ha.len hl
  have hs := ha.sl.up Dg_pos (Nat.le_refl _) (Fr.refl _ _)
  have hb' : RC (fun k => k < w.heap.size) w vb B K := ⟨hb.sl.up Dg_pos (Nat.le_refl _) (Fr.refl _ _), hb.len⟩
  have hxd := Kd.nat_all hs
  have hm := val_dd A
  generalize dg DB A = xs at hs hxd hm hxl
  clear ha hb
  obtain ⟨A1, c, rfl, _, _, hlx⟩ := hs.slice
  obtain ⟨i0, hi, hz0, hz1, hz2⟩ := info_parts info_int
  have hmk : ∀ u : World, (Instr.makeSlice 56 (.int .i64 (xs.length : Int)) (.int .i64 (xs.length : Int))).run Tryz.prog u = .ok (.slice (some ⟨u.heap.size, 0, none⟩) xs.length xs.length) (u.alloc (.cells (rowOf (List.replicate xs.length 0)) 3)) := fun u => by
    have h := run_make (P := Tryz.prog) u 56 3 i0 (.int .i64 0) Tryz.underlying56 hi hz0 .i64 .i64 (xs.length : Int) (xs.length : Int) (by omega) (Int.le_refl _) (by rw [hz2]; omega) (by omega)
    rw [Int.toNat_natCast, hz1, Nat.mul_one] at h
    rw [h]
    refine congrArg (fun c => Result.ok _ (World.alloc u (Obj.cells c _ _))) ?_
    apply Array.ext'
    simp [madeCells, rowOf, Value.cells]
    apply List.ext_getElem
    · simp
    · intro i h1 h2
      simp [Nat.mod_one]
  have HX := Lib.hid (And.intro hs hb')
  have HV := Lib.hid hm
  clear hs hm hb'
  go_enter Tryz.func115, Tryz.ntmps115
  go_wp2_with fail
  go_loopw [7, 8, 9, 10, 11] (fun r i _ _ _ wr => ∃ (k R : Nat) (qs : List Nat), k ≤ xs.length ∧ i = .int .i64 ((k : Int) - 1) ∧ ShortN xs B k qs R ∧ RC (fun k => w.heap.size ≤ k) wr r R K ∧ Row wr w.heap.size qs ∧ Fr (fun k => k < w.heap.size) w wr) (fun _ i _ _ _ _ => (intOf i + 1).toNat)
  case atStart => exact ⟨xs.length, 0, List.replicate xs.length 0, Nat.le_refl _, rfl, ⟨by simp, fun q h => by rw [List.eq_of_mem_replicate h]; exact DBpos, hB, by simp [ofB]⟩, RC.nil _ _ _, heap_alloc_new _ _, (Fr.refl _ _).alloc _⟩
  case round =>
    obtain ⟨k, R, qs, hk, rfl, hN, hr, hrow, hfr⟩ := hrel
    have hbw : RC (fun k => k < w.heap.size) wr vb B K := ⟨HX.out.2.sl.fr hfr, HX.out.2.len⟩
    by_cases h0 : 0 < k
    · obtain ⟨j, rfl⟩ : ∃ j, k = j + 1 := ⟨k - 1, by omega⟩
      have hj : j < xs.length := by omega
      obtain ⟨ad, rfl, hc, hmy⟩ := Kd.nat_cell HX.out.1 (i := j) hj
      have hadw := World.block_lt_of_cell? _ _ hc
      have hcw := hfr.cell hc hadw
      obtain ⟨x, hx⟩ : ∃ x, x = R * DB + xs[j] := ⟨_, rfl⟩
      have hst := hN.step hj hxd hx
      have hlen := hN.len
      have hrest := hN.rest
      obtain ⟨y, hy⟩ : ∃ y, y = xs[j] := ⟨_, rfl⟩
      rw [← hy] at hx hc hmy hcw
      have hidx : ((j + 1 : Nat) : Int) - 1 = (j : Int) := by omega
      rw [hidx]
      have hxlt : x < B * 10000 := by
        have h1 := Nat.mul_le_mul_right DB (show R + 1 ≤ B from hrest)
        rw [Nat.add_mul, Nat.one_mul] at h1
        have : x < B * DB := by omega
        exact this
      have hrs := hr.sl
      have hrl := hr.len
      have HST := Lib.hid hst
      have HY := Lib.hid (And.intro hy hx)
      have HQ := Lib.hid hlen
      have hrd : Dg.rd (fun _ => False) wr y [.int .i64 (y : Int)] := ⟨rfl, hmy⟩
      have HSL := Lib.hid hrs
      have HN2 := Lib.hid (show ([y].length + (dg DB R).length) * 8 ≤ 140737488355328 ∧ [y].length + (dg DB R).length ≤ 9223372036854775807 from by simp; omega)
      obtain ⟨A2, n2, c2, rfl⟩ := hr.form
      clear hst hidx hy hx hlen hrs
      go_wp2_with (at_builtin; refine wpList_push (v := .slice (some ⟨wr.heap.size, 0, none⟩) 1 1) dgT rfl rfl rfl rfl (Own.one (K := Dg) (e := 3) (S := fun k => wr.heap.size ≤ k) wr (Nat.le_refl _) (x := y) (cs := [.int .i64 (y : Int)]) rfl (fun _ _ => ⟨rfl, hmy⟩)) (HSL.out.fr ((Fr.refl _ wr).alloc _)) (fun y cs h => Kd.nat_any (S := fun k => w.heap.size ≤ k) h) (fun k hk => by simp at hk; omega) HN2.out.1 HN2.out.2 ?_; intro v' w1 hown hfr1 hat)
      have fW : Fr (fun k => k < wr.heap.size) wr w1 := ((Fr.refl _ wr).alloc _).comp hfr1 (fun k hk h => ⟨h, by simp [Value.ownBlock]; omega⟩)
      have hsz := hfr.size
      have hwr := hrow.lt
      refine (rtrim2_calls w1 v' _ hown).mono ?_
      rintro e w2 ⟨v2, rfl, h2, rfl⟩
      have hxv : ofB DB ([y] ++ dg DB R) = x := by
        rw [HY.out.2]
        show y + DB * ofB DB (dg DB R) = _
        rw [val_dd, Nat.mul_comm, Nat.add_comm]
      rw [hxv] at h2
      have hBlt1 : x < DB ^ (K + 1) := by
        rw [Nat.pow_succ]
        exact Nat.lt_of_lt_of_le hxlt (Nat.mul_le_mul_right _ (Nat.le_of_lt hBlt))
      have hrx : RC (fun k => wr.heap.size ≤ k) w2 v2 x (K + 1) := .of h2 hBlt1
      have hbx : RC (fun k => k < w.heap.size) w2 vb B (K + 1) := ⟨hbw.sl.fr (fW.mono fun k _ hk => by omega), by have := hbw.len; omega⟩
      have hrow2 := hrow.fr fW (by have := hrow.lt; omega)
      have hfr2 := fr_then hfr fW
      have s2 := fW.size
      clear hown h2 hr hrow hfr hfr1 hat hbw hxv
      go_wp2_with fail
      refine (digit_r _ _ _ _ _ _ hrx hbx (by omega) hxlt).mono ?_
      rintro e w3 ⟨rfl, hf3⟩
      have hrow3 := hrow2.fr hf3 (by have := hrow2.lt; omega)
      have hrx3 := hrx.keep hf3
      have hbx3 := hbx.keep hf3
      have hfr3 := fr_then hfr2 hf3
      have s3 := hf3.size
      obtain ⟨uq, hcell⟩ : ∃ u, w3.cell? ⟨w.heap.size, j, none⟩ = some u := ⟨_, hrow3.cell (j := j) (by rw [HQ.out]; omega)⟩
      have hfree := hrow3.free j
      have hrlt := hrow3.lt
      obtain ⟨q, hq⟩ : ∃ q, q = x / B := ⟨_, rfl⟩
      have hst2 := HST.out
      rw [← hq] at hst2
      rw [← hq]
      have hq4 : q ≤ 4294967296 := by have := hst2.1; unfold DB at this; omega
      have hqB : B * q ≤ x := by rw [hq, Nat.mul_comm]; exact Nat.div_mul_le_self x B
      have hmodx : x - B * q = x % B := by rw [hq]; have := Nat.div_add_mod x B; omega
      have HS2 := Lib.hid hst2
      have HM := Lib.hid (And.intro hq hmodx)
      have hrow4 := hrow3.set j q
      have hfr4 : Fr (fun k => k < w.heap.size) w (w3.setCell ⟨w.heap.size, j, none⟩ (.int .i64 (q : Int))) := hfr3.setCell (p := ⟨w.heap.size, j, none⟩) (fun h => by simp at h) _
      have hfS : Fr (fun k => k ≠ w.heap.size) w3 (w3.setCell ⟨w.heap.size, j, none⟩ (.int .i64 (q : Int))) := (Fr.refl _ w3).setCell (p := ⟨w.heap.size, j, none⟩) (fun _ h => h rfl) _
      have hwg := hrow2.lt
      have hrx4 : RC (fun k => k ≠ w.heap.size) (w3.setCell ⟨w.heap.size, j, none⟩ (.int .i64 (q : Int))) v2 x (K + 1) := ⟨(hrx3.sl.mono fun k hk => by omega).fr hfS, hrx3.len⟩
      have hbx4 : RC (fun k => k ≠ w.heap.size) (w3.setCell ⟨w.heap.size, j, none⟩ (.int .i64 (q : Int))) vb B (K + 1) := ⟨(hbx3.sl.mono fun k hk => by omega).fr hfS, hbx3.len⟩
      clear hq hst2 hmodx hrx hbx hrx3 hbx3 hrow2 hrow3 hfr2 hfr3 hfS hf3 fW
      go_wp2_with fail
      refine (times_r _ _ _ _ q hbx4 hq4 (by omega)).mono ?_
      rintro e w4 ⟨v4, rfl, h4, hf4⟩
      have hrx5 := hrx4.keep hf4
      have hrow5 := hrow4.fr hf4 (by have := hrow4.lt; exact this)
      have hfr5 := fr_then hfr4 hf4
      clear hrx4 hbx4 hrow4 hfr4
      go_wp2_with fail
      refine (sub_r _ _ _ _ _ _ _ hrx5 h4 (by omega) hqB).mono ?_
      rintro e w5 ⟨v5, rfl, h5, hf5⟩
      have s4 := hf4.size
      simp [World.setCell] at s4
      go_wp2_with fail
      go_roundw
      case rel =>
        rw [HM.out.2] at h5
        exact ⟨j, x % B, _, by omega, by go_num, HS2.out.2, (h5.len' (Nat.lt_trans (Nat.mod_lt _ hB) hBlt)).mono fun k hk => by omega, hrow5.fr hf5 hrow5.lt, fr_then hfr5 hf5⟩
      case measure => first | (simp [intOf]; done) | (simp [intOf]; omega)
    · obtain rfl : k = 0 := by omega
      have hown := hrow.own (S := fun k => w.heap.size ≤ k) (Nat.le_refl _) hN.small (by rw [hN.len]; omega)
      rw [hN.len] at hown
      have hsum := hN.sum
      have hrest := hN.rest
      rw [List.drop_zero, List.drop_zero, HV.out] at hsum
      have e1 : A / B = ofB DB qs := by rw [hsum, Nat.mul_add_div hB, Nat.div_eq_of_lt hrest, Nat.add_zero]
      have e2 : A % B = R := by rw [hsum, Nat.mul_add_mod, Nat.mod_eq_of_lt hrest]
      have HE := Lib.hid (And.intro e1 e2)
      have HO := Lib.hid hown
      clear hsum e1 e2 hown
      go_wp2_with fail
      refine (rtrim2_calls wr _ qs HO.out).mono ?_
      rintro e w2 ⟨v, rfl, hv, rfl⟩
      rw [← HE.out.1] at hv
      go_wp2_with fail
      go_ret2
      exact ⟨_, _, rfl, .of hv (Nat.lt_of_le_of_lt (Nat.div_le_self _ _) hlt), by rw [HE.out.2]; exact hr, hfr⟩
end Go.Proofs.YtlppcfeimpcbjaaGreat


/- The reference's Gcd; QuoDivides. -/
namespace Go.Proofs.YtlppcfeimpcbjaaGreat
open Go.RowKit

set_option maxHeartbeats 2000000 in
theorem gcd_r {S T : Nat → Prop} (w : World) (va vb : Value) (A B L : Nat) (ha : RC S w va A L) (hb : RC T w vb B L) (hl : L ≤ 1048576000) :
    Calls Tryz.prog 114 #[va, vb] w fun e w' => ∃ v, e = .returned v ∧ RC (fun _ => True) w' v (Nat.gcd A B) L ∧ Fr (fun k => k < w.heap.size) w w' := by
  have HA := Lib.hid (And.intro (show RC (fun _ => True) w va A L from ha.mono fun _ _ => trivial) (show RC (fun _ => True) w vb B L from hb.mono fun _ _ => trivial))
  clear ha hb
  go_enter Tryz.func114, Tryz.ntmps114
  go_wp2_with fail
  go_loopg [0, 1, 5, 6] B (fun N a b _ _ wr => ∃ M, RC (fun _ => True) wr a M L ∧ RC (fun _ => True) wr b N L ∧ Nat.gcd M N = Nat.gcd A B ∧ Fr (fun k => k < w.heap.size) w wr)
  case atStart => exact ⟨A, HA.out.1, HA.out.2, rfl, Fr.refl _ _⟩
  case round =>
    obtain ⟨M, h1, h2, hg, F⟩ := hrel
    obtain ⟨A2, c2, hv2, _, _, _⟩ := h2.sl.slice
    subst hv2
    have HG := Lib.hid hg
    clear hg
    by_cases h0 : 0 < gk
    · have hpos := (dg_len_pos DB2).2 h0
      go_wp2_with fail
      refine (dm_r _ _ _ _ _ _ _ h1 h2 hl hl h0).mono ?_
      rintro e w3 ⟨q, r, rfl, hq, hr, hf⟩
      go_wp2_with fail
      go_roundg (M % gk)
      case rel => exact ⟨gk, h2.keep hf, hr.mono fun k hk => trivial, by rw [← HG.out, Nat.gcd_comm gk, ← Nat.gcd_rec, Nat.gcd_comm], fr_then F hf⟩
      case measure => exact Nat.mod_lt _ h0
    · obtain rfl : gk = 0 := by omega
      rw [dg_zero]
      have hg0 := HG.out
      rw [Nat.gcd_zero_right] at hg0
      have HG0 := Lib.hid hg0
      clear hg0 h2
      go_wp2_with fail
      go_ret
      exact ⟨_, rfl, by rw [← HG0.out]; exact h1, F⟩

end Go.Proofs.YtlppcfeimpcbjaaGreat


/- QuoDivides, QuoTells. -/
namespace Go.Proofs.YtlppcfeimpcbjaaGreat
open Go.RowKit

end Go.Proofs.YtlppcfeimpcbjaaGreat


/- QuoShort. -/
namespace Go.Proofs.YtlppcfeimpcbjaaGreat
open Go.RowKit

theorem qshort_0 {S : Nat → Prop} (w : World) (va : Value) (N L : Nat) (ha : Num S w va N L) :
    Calls Tryz.prog 158 #[va, .int .u32 0] w fun e w' => e = .returned (.tuple #[.slice none 0 0, .int .u32 0, .int .i64 17]) ∧ Fr (fun k => k < w.heap.size) w w' := by
  obtain ⟨A, n, c, rfl⟩ := ha.form
  clear ha
  go_enter Tryz.func158, Tryz.ntmps158
  go_wp2_with fail
  go_ret3
  exact ⟨rfl, Fr.refl _ _⟩

end Go.Proofs.YtlppcfeimpcbjaaGreat
