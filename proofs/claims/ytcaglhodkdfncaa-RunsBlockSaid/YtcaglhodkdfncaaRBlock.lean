/- The reference's possible and Block. -/
import Derived.Test.YtcaglhodkdfncaaBlockBad
namespace Go.Proofs.Ytcaglhodkdfncaa
open Go.RowKit
set_option linter.unusedSimpArgs false
set_option linter.unusedVariables false

set_option maxRecDepth 100000 in
set_option maxHeartbeats 4000000 in
theorem poss_w1 (n N M : Nat) (hn16 : n ≤ 16) (a1 a2 : Option Addr) (c1 c2 : Nat) (z : Int) (w : World) (hN : N ≤ 4096) (hM : M ≤ 4096)
    (hz0 : -9223372036854775808 ≤ z) (hz1 : z ≤ 9223372036854775807) (hc : n < N) :
    Calls Try.prog 27 #[.int .i64 (n : Int), .agg #[.slice a1 N c1, .int .i64 z, .slice a2 M c2]] w fun e w' => e = .returned (.bool false) ∧ Below w.heap.size w w' := by
  have HB0 := Lib.hid (show Below w.heap.size w (w.alloc (.cells #[.slice a1 N c1, .int .i64 z, .slice a2 M c2] 25)) from (Below.refl _ w).alloc (Nat.le_refl _) _)
  have d1 : decide (n < N) = true := by simp [hc]
  go_enter Try.func27, Try.ntmps27
  go_wp2_with (fail)
  go_ret
  exact ⟨rfl, HB0.out⟩

set_option maxRecDepth 100000 in
set_option maxHeartbeats 4000000 in
theorem poss_w2 (n N M : Nat) (hn16 : n ≤ 16) (a1 a2 : Option Addr) (c1 c2 : Nat) (z : Int) (w : World) (hN : N ≤ 4096) (hM : M ≤ 4096)
    (hz0 : -9223372036854775808 ≤ z) (hz1 : z ≤ 9223372036854775807) (q : Nat) (hq : N = q + 1) (hc : ¬ n < q + 1) (hM2 : ¬ M = q) :
    Calls Try.prog 27 #[.int .i64 (n : Int), .agg #[.slice a1 N c1, .int .i64 z, .slice a2 M c2]] w fun e w' => e = .returned (.bool false) ∧ Below w.heap.size w w' := by
  have HB0 := Lib.hid (show Below w.heap.size w (w.alloc (.cells #[.slice a1 N c1, .int .i64 z, .slice a2 M c2] 25)) from (Below.refl _ w).alloc (Nat.le_refl _) _)
  subst hq
  have hmx : (if 0 < q then (q : Int) else 0) = q := by split <;> omega
  have d1 : decide ((n : Int) < (q : Int) + 1) = false := by simp; omega
  have d2 : ((M : Int) != (q : Int)) = true := by simp; omega
  clear hM2
  go_enter Try.func27, Try.ntmps27
  go_wp2_with (fail)
  go_ret
  exact ⟨rfl, HB0.out⟩

set_option maxRecDepth 100000 in
set_option maxHeartbeats 4000000 in
theorem poss_w3 (n N M : Nat) (hn16 : n ≤ 16) (a1 a2 : Option Addr) (c1 c2 : Nat) (z : Int) (w : World) (hN : N ≤ 4096) (hM : M ≤ 4096)
    (hz0 : -9223372036854775808 ≤ z) (hz1 : z ≤ 9223372036854775807) (q : Nat) (hq : N = q + 1) (hc : ¬ n < q + 1) (hM2 : M = q) (hz : z < 0) :
    Calls Try.prog 27 #[.int .i64 (n : Int), .agg #[.slice a1 N c1, .int .i64 z, .slice a2 M c2]] w fun e w' => e = .returned (.bool false) ∧ Below w.heap.size w w' := by
  have HB0 := Lib.hid (show Below w.heap.size w (w.alloc (.cells #[.slice a1 N c1, .int .i64 z, .slice a2 M c2] 25)) from (Below.refl _ w).alloc (Nat.le_refl _) _)
  subst hq
  subst hM2
  have hmx : (if 0 < M then (M : Int) else 0) = M := by split <;> omega
  have d1 : decide ((n : Int) < (M : Int) + 1) = false := by simp; omega
  have d2 : ((M : Int) != (M : Int)) = false := by simp
  have d3 : decide (z < 0) = true := by simp; omega
  go_enter Try.func27, Try.ntmps27
  go_wp2_with (fail)
  go_ret
  exact ⟨rfl, HB0.out⟩

set_option maxRecDepth 100000 in
set_option maxHeartbeats 4000000 in
theorem poss_w4 (n N M : Nat) (hn16 : n ≤ 16) (a1 a2 : Option Addr) (c1 c2 : Nat) (z : Int) (w : World) (hN : N ≤ 4096) (hM : M ≤ 4096)
    (hz0 : -9223372036854775808 ≤ z) (hz1 : z ≤ 9223372036854775807) (q : Nat) (hq : N = q + 1) (hc : ¬ n < q + 1) (hM2 : M = q) (hz : ¬ z < 0) (hzz : (n : Int) - (q + 1) < z) :
    Calls Try.prog 27 #[.int .i64 (n : Int), .agg #[.slice a1 N c1, .int .i64 z, .slice a2 M c2]] w fun e w' => e = .returned (.bool false) ∧ Below w.heap.size w w' := by
  have HB0 := Lib.hid (show Below w.heap.size w (w.alloc (.cells #[.slice a1 N c1, .int .i64 z, .slice a2 M c2] 25)) from (Below.refl _ w).alloc (Nat.le_refl _) _)
  subst hq
  subst hM2
  have hmx : (if 0 < M then (M : Int) else 0) = M := by split <;> omega
  have d1 : decide ((n : Int) < (M : Int) + 1) = false := by simp; omega
  have d2 : ((M : Int) != (M : Int)) = false := by simp
  have d3 : decide (z < 0) = false := by simp; omega
  have d4 : decide ((n : Int) - ((M : Int) + 1) < z) = true := by simp; omega
  go_enter Try.func27, Try.ntmps27
  go_wp2_with (fail)
  go_ret
  exact ⟨rfl, HB0.out⟩

set_option maxRecDepth 100000 in
set_option maxHeartbeats 4000000 in
theorem poss_w5 (n N M : Nat) (hn16 : n ≤ 16) (a1 a2 : Option Addr) (c1 c2 : Nat) (z : Int) (w : World) (hN : N ≤ 4096) (hM : M ≤ 4096)
    (hz0 : -9223372036854775808 ≤ z) (hz1 : z ≤ 9223372036854775807) (hq : N = 0) (hM2 : ¬ M = 0) :
    Calls Try.prog 27 #[.int .i64 (n : Int), .agg #[.slice a1 N c1, .int .i64 z, .slice a2 M c2]] w fun e w' => e = .returned (.bool false) ∧ Below w.heap.size w w' := by
  have HB0 := Lib.hid (show Below w.heap.size w (w.alloc (.cells #[.slice a1 N c1, .int .i64 z, .slice a2 M c2] 25)) from (Below.refl _ w).alloc (Nat.le_refl _) _)
  subst hq
  have d2 : ((M : Int) != 0) = true := by simp; omega
  go_enter Try.func27, Try.ntmps27
  go_wp2_with (fail)
  go_ret
  exact ⟨rfl, HB0.out⟩

set_option maxRecDepth 100000 in
set_option maxHeartbeats 4000000 in
theorem poss_w6 (n N M : Nat) (hn16 : n ≤ 16) (a1 a2 : Option Addr) (c1 c2 : Nat) (z : Int) (w : World) (hN : N ≤ 4096) (hM : M ≤ 4096)
    (hz0 : -9223372036854775808 ≤ z) (hz1 : z ≤ 9223372036854775807) (hq : N = 0) (hM2 : M = 0) (hz : z < 0) :
    Calls Try.prog 27 #[.int .i64 (n : Int), .agg #[.slice a1 N c1, .int .i64 z, .slice a2 M c2]] w fun e w' => e = .returned (.bool false) ∧ Below w.heap.size w w' := by
  have HB0 := Lib.hid (show Below w.heap.size w (w.alloc (.cells #[.slice a1 N c1, .int .i64 z, .slice a2 M c2] 25)) from (Below.refl _ w).alloc (Nat.le_refl _) _)
  subst hq
  subst hM2
  have d3 : decide (z < 0) = true := by simp; omega
  go_enter Try.func27, Try.ntmps27
  go_wp2_with (fail)
  go_ret
  exact ⟨rfl, HB0.out⟩

set_option maxRecDepth 100000 in
set_option maxHeartbeats 4000000 in
theorem poss_w7 (n N M : Nat) (hn16 : n ≤ 16) (a1 a2 : Option Addr) (c1 c2 : Nat) (z : Int) (w : World) (hN : N ≤ 4096) (hM : M ≤ 4096)
    (hz0 : -9223372036854775808 ≤ z) (hz1 : z ≤ 9223372036854775807) (hq : N = 0) (hM2 : M = 0) (hz : ¬ z < 0) (hzz : (n : Int) < z) :
    Calls Try.prog 27 #[.int .i64 (n : Int), .agg #[.slice a1 N c1, .int .i64 z, .slice a2 M c2]] w fun e w' => e = .returned (.bool false) ∧ Below w.heap.size w w' := by
  have HB0 := Lib.hid (show Below w.heap.size w (w.alloc (.cells #[.slice a1 N c1, .int .i64 z, .slice a2 M c2] 25)) from (Below.refl _ w).alloc (Nat.le_refl _) _)
  subst hq
  subst hM2
  have d3 : decide (z < 0) = false := by simp; omega
  have d4 : decide ((n : Int) < z) = true := by simp; omega
  go_enter Try.func27, Try.ntmps27
  go_wp2_with (fail)
  go_ret
  exact ⟨rfl, HB0.out⟩

set_option maxRecDepth 100000 in
set_option maxHeartbeats 4000000 in
theorem poss_w8 (n N M : Nat) (hn16 : n ≤ 16) (a1 a2 : Option Addr) (c1 c2 : Nat) (z : Int) (w : World) (hN : N ≤ 4096) (hM : M ≤ 4096)
    (hz0 : -9223372036854775808 ≤ z) (hz1 : z ≤ 9223372036854775807) (hq : N = 0) (hM2 : M = 0) (hz : 0 < z) (hzz : ¬ (n : Int) < z) :
    Calls Try.prog 27 #[.int .i64 (n : Int), .agg #[.slice a1 N c1, .int .i64 z, .slice a2 M c2]] w fun e w' => e = .returned (.bool false) ∧ Below w.heap.size w w' := by
  have HB0 := Lib.hid (show Below w.heap.size w (w.alloc (.cells #[.slice a1 N c1, .int .i64 z, .slice a2 M c2] 25)) from (Below.refl _ w).alloc (Nat.le_refl _) _)
  subst hq
  subst hM2
  have d3 : decide (z < 0) = false := by simp; omega
  have d4 : decide ((n : Int) < z) = false := by simp; omega
  have d5 : (z != 0) = true := by simp; omega
  go_enter Try.func27, Try.ntmps27
  go_wp2_with (fail)
  go_ret
  exact ⟨rfl, HB0.out⟩

def PossP (n : Nat) (vs : List Int) (z : Int) (bs : List Int) (w : World) (e : Ending) (w' : World) : Prop :=
  ∃ r : Bool, e = .returned (.bool r) ∧ (r = true ↔ Poss n vs z bs) ∧ Below w.heap.size w w'

set_option maxRecDepth 100000 in
set_option maxHeartbeats 4000000 in
theorem poss_none (n : Nat) (hn16 : n ≤ 16) (a1 a2 : Option Addr) (c1 c2 : Nat) (w : World) :
    Calls Try.prog 27 #[.int .i64 (n : Int), .agg #[.slice a1 0 c1, .int .i64 0, .slice a2 0 c2]] w fun e w' => e = .returned (.bool true) ∧ Below w.heap.size w w' := by
  have HB0 := Lib.hid (show Below w.heap.size w (w.alloc (.cells #[.slice a1 0 c1, .int .i64 0, .slice a2 0 c2] 25)) from (Below.refl _ w).alloc (Nat.le_refl _) _)
  have d4 : decide ((n : Int) < 0) = false := by simp
  go_enter Try.func27, Try.ntmps27
  go_wp2_with (fail)
  go_rounds 1
  go_rounds 1
  go_ret
  exact ⟨rfl, HB0.out⟩

set_option maxRecDepth 100000 in
set_option maxHeartbeats 4000000 in
theorem poss_loop (n m : Nat) (hn16 : n ≤ 16) (sL sB : Value) (z : Int) (vs bs : List Int) (w : World) (h1 : Ints w sL vs) (h2 : Ints w sB bs)
    (hvl : vs.length = m + 1) (hbl : bs.length = m) (hle : m + 1 ≤ n) (hz0 : 0 ≤ z) (hz1 : z + m + 1 ≤ (n : Int)) :
    Calls Try.prog 27 #[.int .i64 (n : Int), .agg #[sL, .int .i64 z, sB]] w (PossP n vs z bs w) := by
  obtain ⟨a1, c1, rfl⟩ := h1.form
  obtain ⟨a2, c2, rfl⟩ := h2.form
  have hb0 : Below w.heap.size w (w.alloc (.cells #[.slice a1 vs.length c1, .int .i64 z, .slice a2 bs.length c2] 25)) := (Below.refl _ w).alloc (Nat.le_refl _) _
  have G1 := Lib.hid (h1.below hb0)
  have G2 := Lib.hid (h2.below hb0)
  simp only [hvl, hbl] at hb0 G1 G2 ⊢
  have HB0 := Lib.hid hb0
  have HVL := Lib.hid hvl
  have HBL := Lib.hid hbl
  have e0 : ((m : Int) + 1 == 0) = false := by simp; omega
  have hmx : (if 0 < m then (m : Int) else 0) = m := by split <;> omega
  have d1 : decide ((n : Int) < (m : Int) + 1) = false := by simp; omega
  have d2 : decide (z < 0) = false := by simp; omega
  have d3 : decide ((n : Int) - (m + 1) < z) = false := by simp; omega
  have d5 : ((m : Int) != (m : Int)) = false := by simp
  clear h1 h2 hb0 hbl hvl
  go_enter Try.func27, Try.ntmps27
  go_wp2_with (fail)
  clear hmx d1 d2 d3 e0 d5
  go_loop [6, 7] (fun l i => ∃ k : Nat, k ≤ m ∧ i = .int .i64 k ∧ l = .int .i64 (z - (bs.take k).sum) ∧ Hid (∀ j, j < k → 0 ≤ bs[j]?.getD 0) ∧ 0 ≤ (bs.take k).sum ∧ (bs.take k).sum ≤ z) (fun _ i => m - (intOf i).toNat)
  case atStart => exact ⟨0, Nat.zero_le _, rfl, by simp, fun j hj => by omega, by simp, by simpa using hz0⟩
  case round =>
    obtain ⟨k, hk, rfl, rfl, HJ, hs0, hs1⟩ := hrel
    by_cases hlt : k < m
    · obtain ⟨b2, o2, b, rfl, hbv, HBV⟩ := G2.out.at_ (k := k) (by have := HBL.out; omega)
      have HSU := Lib.hid (show (bs.take (k + 1)).sum = (bs.take k).sum + b from by rw [sum_take_succ bs k (by have := HBL.out; omega), HBV.out])
      have HNP := Lib.hid (show (b < 0 ∨ z - (bs.take k).sum < b) → ¬ Poss n vs z bs from fun hc hp => by
        have hkl : k < bs.length := by have := HBL.out; omega
        have h1 := (poss_b hp k hkl).1
        rw [HBV.out] at h1
        have h2 := (sum_take bs hp.nn (k + 1)).2
        rw [HSU.out] at h2
        have h3 := hp.sum
        omega)
      generalize (bs.take k).sum = s at *
      have k0 : (0 : Int) ≤ (k : Int) := by omega
      have k1 : (k : Int) < (m : Int) := by omega
      by_cases hb0 : b < 0
      · have d4 : decide (b < 0) = true := by simp; omega
        go_wp2_with (fail)
        go_ret
        exact ⟨false, rfl, ⟨fun h => by simp at h, fun h => absurd h (HNP.out (.inl hb0))⟩, HB0.out⟩
      · have d4 : decide (b < 0) = false := by simp; omega
        by_cases hb1 : z - s < b
        · have d6 : decide (z - s < b) = true := by simp; omega
          go_wp2_with (fail)
          go_ret
          exact ⟨false, rfl, ⟨fun h => by simp at h, fun h => absurd h (HNP.out (.inr hb1))⟩, HB0.out⟩
        · have d6 : decide (z - s < b) = false := by simp; omega
          go_wp2_with (fail)
          go_round
          case rel =>
            refine ⟨k + 1, by omega, by go_num, by rw [HSU.out]; go_num, fun j hj => ?_, by rw [HSU.out]; omega, by rw [HSU.out]; omega⟩
            by_cases e : j = k
            · rw [e, HBV.out]; omega
            · exact HJ.out j (by omega)
          case measure => simp [intOf]; omega
    · obtain rfl : k = m := by omega
      have HS := Lib.hid (show bs.take k = bs from List.take_of_length_le (by have := HBL.out; omega))
      rw [HS.out] at hs0 hs1 ⊢
      have HJ2 := Lib.hid (show ∀ b ∈ bs, 0 ≤ b from all_of_get (fun j hj => HJ.out j (by have := HBL.out; omega)))
      have HP := Lib.hid (show (∀ v ∈ vs, v ≠ 0) → Poss n vs z bs from fun hv => ⟨by have := HVL.out; omega, by have := HVL.out; have := HBL.out; omega, hz0, by have := HVL.out; omega, fun e => by have := HVL.out; rw [e] at this; simp at this, HJ2.out, hs1, hv⟩)
      clear hs0 hs1
      generalize bs.sum = s at *
      go_wp2_with (fail)
      go_loop [8] (fun i => ∃ j : Nat, j ≤ k + 1 ∧ i = .int .i64 j ∧ Hid (∀ q, q < j → vs[q]?.getD 0 ≠ 0)) (fun i => k + 1 - (intOf i).toNat)
      case atStart => exact ⟨0, Nat.zero_le _, rfl, fun j hj => by omega⟩
      case round =>
        obtain ⟨j, hj, rfl, HN⟩ := hrel
        by_cases hlt' : j < k + 1
        · obtain ⟨b1, o1, v, rfl, hcv, HV⟩ := G1.out.at_ (k := j) (by have := HVL.out; omega)
          have k0 : (0 : Int) ≤ (j : Int) := by omega
          have k1 : (j : Int) < (k : Int) + 1 := by omega
          by_cases hv : v = 0
          · have HNP := Lib.hid (show ¬ Poss n vs z bs from fun h => poss_v h j (by have := HVL.out; omega) (HV.out.trans hv))
            have e1 : (v == 0) = true := by simp [hv]
            clear hv
            go_wp2_with (fail)
            go_ret
            exact ⟨false, rfl, ⟨fun h => by simp at h, fun h => absurd h HNP.out⟩, HB0.out⟩
          · have e1 : (v == 0) = false := by simp [hv]
            have HV0 := Lib.hid hv
            clear hv
            go_wp2_with (fail)
            go_round
            case rel =>
              refine ⟨j + 1, by omega, by go_num, fun q hq => ?_⟩
              by_cases e : q = j
              · rw [e, HV.out]; exact HV0.out
              · exact HN.out q (by omega)
            case measure => simp [intOf]; omega
        · obtain rfl : j = k + 1 := by omega
          have HPP := Lib.hid (HP.out (all_of_get (fun q hq => HN.out q (by have := HVL.out; omega))))
          go_wp2_with (fail)
          go_ret
          exact ⟨true, rfl, ⟨fun _ => HPP.out, fun _ => rfl⟩, HB0.out⟩

theorem poss_any (n : Nat) (hn16 : n ≤ 16) (sL sB : Value) (z : Int) (vs bs : List Int) (w : World) (h1 : Ints w sL vs) (h2 : Ints w sB bs) (hz0 : -9223372036854775808 ≤ z) (hz1 : z ≤ 9223372036854775807) :
    Calls Try.prog 27 #[.int .i64 (n : Int), .agg #[sL, .int .i64 z, sB]] w (PossP n vs z bs w) := by
  have h1' := h1
  have h2' := h2
  obtain ⟨a1, c1, rfl⟩ := h1.form
  obtain ⟨a2, c2, rfl⟩ := h2.form
  have l1 := h1.len
  have l2 := h2.len
  have bad : ¬ Poss n vs z bs → (Calls Try.prog 27 #[.int .i64 (n : Int), .agg #[.slice a1 vs.length c1, .int .i64 z, .slice a2 bs.length c2]] w fun e w' => e = .returned (.bool false) ∧ Below w.heap.size w w') →
      Calls Try.prog 27 #[.int .i64 (n : Int), .agg #[.slice a1 vs.length c1, .int .i64 z, .slice a2 bs.length c2]] w (PossP n vs z bs w) :=
    fun hp hcall => hcall.mono fun e w' ⟨he, hb⟩ => ⟨false, he, ⟨fun h => by simp at h, fun h => absurd h hp⟩, hb⟩
  by_cases c1' : n < vs.length
  · exact bad (fun h => by have := h.len; omega) (poss_w1 n vs.length bs.length hn16 a1 a2 c1 c2 z w l1 l2 hz0 hz1 c1')
  · by_cases hM : bs.length = vs.length - 1
    · by_cases c3 : z < 0
      · refine bad (fun h => by have := h.z0; omega) ?_
        by_cases h0 : vs.length = 0
        · exact poss_w6 n vs.length bs.length hn16 a1 a2 c1 c2 z w l1 l2 hz0 hz1 h0 (by omega) c3
        · exact poss_w3 n vs.length bs.length hn16 a1 a2 c1 c2 z w l1 l2 hz0 hz1 (vs.length - 1) (by omega) (by omega) (by omega) c3
      · by_cases c4 : (n : Int) - vs.length < z
        · refine bad (fun h => by have := h.z1; omega) ?_
          by_cases h0 : vs.length = 0
          · exact poss_w7 n vs.length bs.length hn16 a1 a2 c1 c2 z w l1 l2 hz0 hz1 h0 (by omega) c3 (by omega)
          · exact poss_w4 n vs.length bs.length hn16 a1 a2 c1 c2 z w l1 l2 hz0 hz1 (vs.length - 1) (by omega) (by omega) (by omega) c3 (by omega)
        · by_cases h0 : vs.length = 0
          · by_cases hz : z = 0
            · have hv : vs = [] := List.length_eq_zero_iff.1 h0
              have hb : bs = [] := List.length_eq_zero_iff.1 (by omega)
              subst hz
              subst hv
              subst hb
              have hp : Poss n [] 0 [] := ⟨by simp, rfl, by omega, by simp, fun _ => rfl, by simp, by simp, by simp⟩
              exact (poss_none n hn16 a1 a2 c1 c2 w).mono fun e w' ⟨he, hb⟩ => ⟨true, he, ⟨fun _ => hp, fun _ => rfl⟩, hb⟩
            · exact bad (fun h => hz (h.none (List.length_eq_zero_iff.1 h0))) (poss_w8 n vs.length bs.length hn16 a1 a2 c1 c2 z w l1 l2 hz0 hz1 h0 (by omega) (by omega) (by omega))
          · exact poss_loop n bs.length hn16 _ _ z vs bs w h1' h2' (by omega) rfl (by omega) (by omega) (by omega)
    · refine bad (fun h => hM h.bef) ?_
      by_cases h0 : vs.length = 0
      · exact poss_w5 n vs.length bs.length hn16 a1 a2 c1 c2 z w l1 l2 hz0 hz1 h0 (by omega)
      · exact poss_w2 n vs.length bs.length hn16 a1 a2 c1 c2 z w l1 l2 hz0 hz1 (vs.length - 1) (by omega) (by omega) (by omega)
end Go.Proofs.Ytcaglhodkdfncaa
