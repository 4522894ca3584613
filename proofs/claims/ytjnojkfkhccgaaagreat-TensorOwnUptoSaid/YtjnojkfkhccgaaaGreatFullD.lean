import Derived.Test.YtjnojkfkhccgaaaGreatFullC
import Derived.Test.YtjnojkfkhccgaaaGreatIdxA

/- fluxionref07.Full. -/
namespace Go.Proofs.YtjnojkfkhccgaaaGreat
open Go.RowKit

set_option maxRecDepth 20000 in
set_option maxHeartbeats 8000000 in
theorem rfull_t {S T : Nat → Prop} (w : World) (vs vn vd : Value) (s : Bool) (sh : List Int) (q : Rat) (L : Nat) (hs : Sl Im S w vs sh) (hx : RR T w vn vd q L) (hsg : s = sg q) (hsl : sh.length ≤ 1099511627000) :
    Calls Tryz.prog 30 #[vs, .agg #[.bool s, vn, vd]] w fun e w' => ∃ v1 v2, e = .returned (.agg #[v1, v2]) ∧ Sl Im (fun _ => True) w' v1 sh ∧ Sl (Rk L) (fun _ => True) w' v2 (List.replicate (cntS sh).toNat q) ∧ Fr (fun k => k < w.heap.size) w w' := by
  subst hsg
  obtain ⟨A, c, rfl, _, _, hlx⟩ := hs.slice
  obtain ⟨⟨P, n1, c1, rfl⟩, ⟨Q, n2, c2, rfl⟩⟩ := hx.form
  obtain ⟨N, hN⟩ : ∃ N : Nat, cntS sh = (N : Int) := ⟨(cntS sh).toNat, by
    by_cases h : mayS sh = 0
    · have := pr_pos (mayS_ok h).2.1
      rw [cntS_ok h]; omega
    · rw [cntS_no h]; rfl⟩
  have hN2 : N ≤ 1024 := by
    by_cases h : mayS sh = 0
    · have := (mayS_ok h).2.2
      rw [cntS_ok h] at hN; omega
    · rw [cntS_no h] at hN; omega
  rw [show (cntS sh).toNat = N by omega]
  have HN := Lib.hid hN
  have F := ((Fr.refl (fun k => k < w.heap.size) w).alloc (.cells #[.bool (sg q), .slice P n1 c1, .slice Q n2 c2] 52)).alloc (.cells #[.slice none 0 0, .slice none 0 0] 37)
  have x0 := (Box3.new w 52 (.bool (sg q)) (.slice P n1 c1) (.slice Q n2 c2)).alloc (.cells #[.slice none 0 0, .slice none 0 0] 37)
  have b2 := Box2.new (w.alloc (.cells #[.bool (sg q), .slice P n1 c1, .slice Q n2 c2] 52)) 37 (.slice none 0 0) (.slice none 0 0)
  simp only [World.size_alloc] at b2
  have HS := Lib.hid (hs.low Im_pos)
  have HX := Lib.hid (show RR (fun k => k < w.heap.size) w (.slice P n1 c1) (.slice Q n2 c2) q L from ⟨⟨hx.num.sl.low Dg_pos, hx.num.len⟩, ⟨hx.den.sl.low Dg_pos, hx.den.len⟩⟩)
  have HNl := Lib.hid (show (([] : List Int).length + sh.length) * 8 ≤ 140737488355328 ∧ ([] : List Int).length + sh.length ≤ 9223372036854775807 by simp; omega)
  clear hs hx hN
  go_enter Tryz.func30, Tryz.ntmps30
  have hsz : ((w.alloc (.cells #[.bool (sg q), .slice P n1 c1, .slice Q n2 c2] 52)).alloc (.cells #[.slice none 0 0, .slice none 0 0] 37)).heap.size = w.heap.size + 2 := by simp
  generalize hsq : sg q = sq at F x0 b2 hsz
  have HSQ := Lib.hid hsq
  clear hsq
  go_wp2_with (at_builtin; refine wpList_push (v := .slice none 0 0) imT2 rfl rfl rfl rfl (Own.nil Im 3 (fun k => w.heap.size + 2 ≤ k) _) (HS.out.fr F) (fun y cs h => Kd.int_any (S := fun k => k < w.heap.size) h) (fun k hk => by omega) HNl.out.1 HNl.out.2 ?_; intro v1 w1 ho1 hf1 hat1; obtain ⟨A1, m1, k1, rfl⟩ := ho1.form)
  rw [List.nil_append] at ho1
  have h1a := fun R => hf1.mono (T := R) fun k _ _ => by simp [Value.ownBlock]
  have s1 := hf1.size
  rw [hsz] at s1
  have lt1 := ho1.lt
  replace x0 := x0.fr (h1a (fun _ => True)) trivial
  replace b2 := b2.fr (h1a (fun _ => True)) trivial
  replace F := F.comp (h1a (fun _ => True)) (R := fun k => k < w.heap.size) fun k _ hk => ⟨hk, trivial⟩
  clear hf1 hat1 h1a
  have al := fun R => (Fr.refl R w1).alloc (.cells #[.slice A1 m1 k1, .slice none 0 0] 37)
  have b5 := Box2.new w1 37 (.slice A1 m1 k1) (.slice none 0 0)
  replace x0 := x0.fr (al (fun _ => True)) trivial
  replace b2 := b2.fr (al (fun _ => True)) trivial
  have o1 := (ho1.bd.fr (al _)).mono (T := fun k => w.heap.size + 2 ≤ k ∧ k < w1.heap.size) fun k hk => hk
  replace F := F.alloc (.cells #[.slice A1 m1 k1, .slice none 0 0] 37)
  clear al ho1 lt1
  go_loopw [6] (fun i wr => ∃ (j : Nat) (v2 : Value), i = .int .i64 j ∧ j ≤ N ∧ Box3 wr w.heap.size 52 (.bool sq) (.slice P n1 c1) (.slice Q n2 c2) ∧ Box2 wr (w.heap.size + 1) 37 (.slice none 0 0) (.slice none 0 0) ∧ Box2 wr w1.heap.size 37 (.slice A1 m1 k1) v2 ∧ Own Im 3 (fun k => w.heap.size + 2 ≤ k ∧ k < w1.heap.size) wr (.slice A1 m1 k1) sh ∧ Own (Rk L) 52 (fun k => k < w.heap.size ∨ w1.heap.size < k) wr v2 (List.replicate j q) ∧ (∀ b, v2.ownBlock = some b → w1.heap.size < b) ∧ Fr (fun k => k < w.heap.size) w wr) (fun i _ => N - (intOf i).toNat)
  case atStart => exact ⟨0, _, rfl, by omega, x0, b2, b5, o1, Own.nil _ _ _ _, fun b h => by simp [Value.ownBlock] at h, F⟩
  case round =>
    clear x0 b2 b5 o1 F
    obtain ⟨j, v2, rfl, hj, x0, b2, b5, o1, o2, hob, F⟩ := hrel
    obtain ⟨A2, m2, k2, rfl⟩ := o2.form
    have PC := Lib.hid (scount_calls wr (.slice A sh.length c) sh (HS.out.fr F))
    rw [HN.out] at PC
    go_wp2_with fail
    refine PC.out.mono ?_
    rintro e wq ⟨rfl, rfl⟩
    clear PC
    by_cases hlt : j < N
    · have c5 := b5.c1
      have y0 := x0.c0; have y1 := x0.c1; have y2 := x0.c2
      have ltb := b5.lt
      have HLn := Lib.hid (show ((List.replicate j q).length + 1) * 56 ≤ 140737488355328 ∧ (List.replicate j q).length + 1 ≤ 9223372036854775807 by rw [List.length_replicate]; omega)
      have HXq := Lib.hid (HX.out.fr F)
      have lt2 := o2.lt
      go_wp2_with (at_builtin; refine wpList_push1 (v := .slice A2 m2 k2) (y := q) (T := fun k => k < w.heap.size) (cs := [.bool sq, .slice P n1 c1, .slice Q n2 c2]) (rkT L) rfl rfl rfl rfl o2 ⟨_, _, by rw [HSQ.out], HXq.out⟩ (fun k hk _ => ⟨.inl hk, fun e => by have := hob k e.symm; omega⟩) (fun k hk => .inr (by omega)) HLn.out.1 HLn.out.2 ?_; intro v3 w3 ho hfr hat; obtain ⟨A3, m3, k3, rfl⟩ := ho.form; have d5 := b5.fr hfr (fun e => by have := hob _ e.symm; omega); have d1 := d5.c1; have d2 := d5.free 1)
      have F9 := fr_set1 w3 w1.heap.size 1 (.slice A3 m3 k3)
      refine ⟨⟨j + 1, _, by go_num, by omega, (x0.fr hfr (fun e => by have := hob _ e.symm; omega)).fr F9 (by omega), (b2.fr hfr (fun e => by have := hob _ e.symm; omega)).fr F9 (by omega), d5.set1 _, (o1.fr (hfr.mono fun k _ hk e => by have := hob _ e.symm; omega)).past F9 (fun k hk => by omega),
        by rw [List.replicate_succ']; exact ho.past F9 (fun k hk => by omega), fun b hb => ?_, (F.comp hfr (R := fun k => k < w.heap.size) fun k _ hk => ⟨hk, fun e => by have := hob _ e.symm; omega⟩).comp F9 fun k _ hk => ⟨hk, by omega⟩⟩, ?_⟩
      · rcases hat with e | ⟨b', e, hb'⟩
        · exact hob b (by rw [← e]; exact hb)
        · rw [e] at hb
          cases hb
          omega
      · simp [intOf]; omega
    · obtain rfl : j = N := by omega
      have d0 := b5.c0; have d1 := b5.c1
      go_wp2_with ((with_reducible apply wpList_st2); rfl; rfl; exact b2; exact tt2; rfl; rfl; intro w9 B9 F9)
      refine bodyPost_ret (results_cell2 rfl rfl B9 Tryz.underlying37 tt2) rfl ?_
      exact ⟨_, _, rfl, (o1.past F9 fun k hk => by omega).sl.any, (o2.past F9 fun k hk => by omega).sl.any, F.comp F9 fun k _ hk => ⟨hk, by omega⟩⟩
end Go.Proofs.YtjnojkfkhccgaaaGreat
