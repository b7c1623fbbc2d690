/- The walk of PlaceGrid. -/
import Derived.Test.YtmackljhomameaaRef
import Derived.Test.YtmackljhomameaaMap
import Derived.RegionTactic
namespace Go.Proofs.Ytmackljhomameaa
open Go.RowKit Go.Maps

set_option maxRecDepth 100000 in
set_option maxHeartbeats 8000000 in
theorem grid_walk (x0 x1 x2 : Int) (f v m : Nat) (hf : f < 1000) (hv : 1 ≤ v) (hv' : v ≤ 20) (hm : m < 300)
    (e0 : x0.tmod 1000 % 1000 = f) (e1 : x1.tmod 20 % 20 + 1 = v) (e2 : x2.tmod 300 % 300 = m)
    (p0 : -1000 ≤ x0.tmod 1000) (q0 : x0.tmod 1000 ≤ 1000) (p1 : -20 ≤ x1.tmod 20) (q1 : x1.tmod 20 ≤ 20) (p2 : -300 ≤ x2.tmod 300) (q2 : x2.tmod 300 ≤ 300) (r1 : 0 ≤ x1.tmod 20 % 20) (r2 : x1.tmod 20 % 20 ≤ 19) (w : World) :
    Calls Try.prog 4 #[.int .i64 x0, .int .i64 x1, .int .i64 x2] w fun e w' => e = .returned (.bool true) ∧ Below w.heap.size w w' := by
  have hmm := @run_makeMap Try.prog
  go_enter Try.func4, Try.ntmps4
  go_wp2_with (fail)
  rw [show (x0.tmod 1000 + 1000) % 1000 = f by simpa using e0, show (x2.tmod 300 + 300) % 300 = m by simpa using e2]
  generalize (x1.tmod 20 + 20) % 20 = z1
  generalize x0.tmod 1000 + 1000 = z2
  generalize x2.tmod 300 + 300 = z3
  generalize x1.tmod 20 + 20 = z4
  go_loopw [8] (fun i wr => ∃ k : Nat, k ≤ m ∧ i = .int .i64 (f + k : Int) ∧ (∃ D : DataW Unit, wr.ownsMap Try.prog 28 (plainElem Try.prog 3) w.heap.size k D ∧ GInv f v k D) ∧ Below w.heap.size w wr) (fun i _ => f + m - (intOf i).toNat)
  case atStart => exact ⟨0, by omega, by simp, ⟨_, World.ownsMap_made _ _ _ _, ginv0 _ _⟩, (Below.refl _ _).alloc (Nat.le_refl _) _⟩
  case round =>
    obtain ⟨k, hk, rfl, ⟨D, hown, hg⟩, hB⟩ := hrel
    have B0 := Lib.hid hB
    clear hB hmm e0 e1 e2 p0 q0 p1 q1 p2 q2 r1 r2
    by_cases hkm : k < m
    · obtain ⟨a, ha⟩ : ∃ a : Int, a = f + k := ⟨_, rfl⟩
      rw [← ha]
      have hlt : a < f + m := by omega
      have a0 : 0 ≤ a := by omega
      have a1 : a < 1300 := by omega
      have v0 : (1 : Int) ≤ v := by omega
      have v1 : (v : Int) ≤ 20 := by omega
      have vne : (v : Int) ≠ 0 := by omega
      have hx0 : 0 ≤ a % v := Int.emod_nonneg _ vne
      have hx1 : a % v < v := Int.emod_lt_of_pos _ (by omega)
      have hy0 : 0 ≤ a / v := Int.ediv_nonneg a0 (by omega)
      have hy1 : a / v ≤ a := Int.ediv_le_self _ a0
      have hxy : a / v * v + a % v = a := by rw [Int.mul_comm]; exact Int.mul_ediv_add_emod a v
      have wx : wf64 (a % v) := wf64_of (by omega) (by omega)
      have wy : wf64 (a / v) := wf64_of (by omega) (by omega)
      obtain ⟨w2, hrun, hown2, hgr⟩ := (hown.drew).update law28 Try.underlying27 (by unfold maxLen; omega) (key28 _ _ wx wy) (plainElem_int (H := Unit) Try.underlying3 (wf64_of (x := a) (by omega) (by omega)))
      have hg2 := ginv_step hg (by omega) (by rw [← ha]; exact wx) (by rw [← ha]; exact wy)
      rw [← ha] at hg2
      have B2 := Lib.hid (Below.grown (B0.out.drew) hgr (by have := B0.out.size; exact this) (fun j hj => by cases hj; exact Nat.le_refl _))
      have HG := Lib.hid hg2
      have HO := Lib.hid hown2
      have HA := Lib.hid ha
      have hfa : (f : Int) ≤ a := by omega
      clear hown hg hg2 hown2 hgr ha wx wy
      unfold kv at hrun
      have T1 := Lib.hid (show ¬ a % v = 0 ∧ f < a → (Instr.lookup 27 (.map (some w.heap.size)) (.agg #[.int .i64 (a % v - 1), .int .i64 (a / v)]) true).run Try.prog w2.drew = .ok (.tuple #[.int .i64 (a - 1), .bool true]) w2.drew from fun hc => by
        have hl := look_in HO.out.drew HG.out (x := a % v - 1) (y := a / v) (wf64_of (by omega) (by omega)) (wf64_of (by omega) (by omega)) ⟨by omega, by omega, by omega, by have := HA.out; omega⟩
        rwa [show a / v * v + (a % v - 1) = a - 1 by omega] at hl)
      have F1 := Lib.hid (show ¬ (¬ a % v = 0 ∧ f < a) → ∃ c, (Instr.lookup 27 (.map (some w.heap.size)) (.agg #[.int .i64 (a % v - 1), .int .i64 (a / v)]) true).run Try.prog w2.drew = .ok (.tuple #[.int .i64 c, .bool false]) w2.drew from fun hc => look_out HO.out.drew HG.out (x := a % v - 1) (y := a / v) (wf64_of (by omega) (by omega)) (wf64_of (by omega) (by omega)) (by unfold InR; omega))
      have hm1 : (a / v - 1) * v + a % v = a - v := by rw [Int.sub_mul]; omega
      have T2 := Lib.hid (show f ≤ a - v → (Instr.lookup 27 (.map (some w.heap.size)) (.agg #[.int .i64 (a % v), .int .i64 (a / v - 1)]) true).run Try.prog w2.drew.drew = .ok (.tuple #[.int .i64 (a - v), .bool true]) w2.drew.drew from fun hc => by
        have hl := look_in HO.out.drew.drew HG.out (x := a % v) (y := a / v - 1) (wf64_of (by omega) (by omega)) (wf64_of (by omega) (by omega)) ⟨by omega, by omega, by omega, by have := HA.out; omega⟩
        rwa [hm1] at hl)
      have F2 := Lib.hid (show ¬ f ≤ a - v → ∃ c, (Instr.lookup 27 (.map (some w.heap.size)) (.agg #[.int .i64 (a % v), .int .i64 (a / v - 1)]) true).run Try.prog w2.drew.drew = .ok (.tuple #[.int .i64 c, .bool false]) w2.drew.drew from fun hc => look_out HO.out.drew.drew HG.out (x := a % v) (y := a / v - 1) (wf64_of (by omega) (by omega)) (wf64_of (by omega) (by omega)) (by unfold InR; omega))
      have HN := Lib.hid (fun w => near_yes a f v v0 (by omega) (by omega) (by omega) hfa (by omega) w 9 (.inl rfl))
      clear hxy hm1
      by_cases hA : f ≤ a - v
      · have hl2 := T2.out hA
        have hNA : nearA a f v = a - v := by simp [nearA, hA]
        rw [hNA] at HN
        by_cases hz : a % v = 0
        · obtain ⟨c1, hl1⟩ := F1.out (by omega)
          have hNL : nearL a f v = -1 := by simp [nearL, hz]
          rw [hNL] at HN
          clear hNA hNL T1 T2 F1 F2
          have HZ := Lib.hid hz
          clear hz
          go_wp2_with (fail)
          go_region
          go_wp2_with (go_at_call 9; refine (HN.out _).mono ?_; rintro e w3 ⟨rfl, rfl⟩)
          go_region
          go_wp2_with (fail)
          go_region
          have hz := HZ.out
          go_wp2_with (fail)
          all_goals
            go_roundw
            case rel => exact ⟨k + 1, by omega, by rw [HA.out]; go_num, ⟨_, HO.out, HG.out⟩, B2.out.drew.drew⟩
            case measure => simp [intOf]; omega
        · have hfl : f < a := by omega
          have hl1 := T1.out ⟨hz, hfl⟩
          have hNL : nearL a f v = a - 1 := by simp [nearL, hz, hfl]
          rw [hNL] at HN
          have HN2 := Lib.hid (fun w => near_yes (a - v) f v v0 (by omega) (by omega) (by omega) hA (by omega) w 9 (.inl rfl))
          have HN3 := Lib.hid (fun w => near_yes (a - 1) f v v0 (by omega) (by omega) (by omega) (by omega) (by omega) w 9 (.inl rfl))
          generalize nearA (a - v) f v = u1 at *
          generalize nearL (a - 1) f v = u2 at *
          have hzv : (a - v) % v = a % v := by simp
          clear hNA hNL T1 T2 F1 F2
          by_cases hd : f ≤ a - 1 - v
          · have e1 : nearA (a - 1) f v = a - 1 - v := by simp [nearA, hd]
            have e2 : nearL (a - v) f v = a - 1 - v := by
              have : (f : Int) < a - v := by omega
              unfold nearL
              rw [hzv, if_pos ⟨hz, this⟩]
              omega
            rw [e1] at HN3
            rw [e2] at HN2
            clear e1 e2 hzv
            have hge : (0 : Int) ≤ a - 1 - v := by omega
            go_wp2_with (fail)
            go_region
            go_wp2_with (go_at_call 9; refine (HN.out _).mono ?_; rintro e w3 ⟨rfl, rfl⟩)
            go_region
            go_wp2_with (fail)
            go_region
            go_wp2_with (first
              | (go_at_call 9; have hx := M2; clear hx; refine (HN3.out _).mono ?_; rintro e w5 ⟨rfl, rfl⟩)
              | (go_at_call 9; refine (HN2.out _).mono ?_; rintro e w4 ⟨rfl, rfl⟩; have M2 := Lib.hid trivial))
            all_goals
              go_roundw
              case rel => exact ⟨k + 1, by omega, by rw [HA.out]; go_num, ⟨_, HO.out, HG.out⟩, B2.out.drew.drew⟩
              case measure => simp [intOf]; omega
          · have e1 : nearA (a - 1) f v = -1 := by simp [nearA, hd]
            rw [e1] at HN3
            generalize nearL (a - v) f v = u3 at *
            clear e1 hzv
            go_wp2_with (fail)
            go_region
            go_wp2_with (go_at_call 9; refine (HN.out _).mono ?_; rintro e w3 ⟨rfl, rfl⟩)
            go_region
            go_wp2_with (fail)
            go_region
            go_wp2_with (first
              | (go_at_call 9; have hx := M2; clear hx; refine (HN3.out _).mono ?_; rintro e w5 ⟨rfl, rfl⟩)
              | (go_at_call 9; refine (HN2.out _).mono ?_; rintro e w4 ⟨rfl, rfl⟩; have M2 := Lib.hid trivial))
            all_goals
              go_roundw
              case rel => exact ⟨k + 1, by omega, by rw [HA.out]; go_num, ⟨_, HO.out, HG.out⟩, B2.out.drew.drew⟩
              case measure => simp [intOf]; omega
      · obtain ⟨c2, hl2⟩ := F2.out hA
        have hNA : nearA a f v = -1 := by simp [nearA, hA]
        rw [hNA] at HN
        by_cases hz : ¬ a % v = 0 ∧ f < a
        · have hl1 := T1.out hz
          have hNL : nearL a f v = a - 1 := by unfold nearL; rw [if_pos hz]
          rw [hNL] at HN
          clear hNA hNL T1 T2 F1 F2 hz
          go_wp2_with (fail)
          go_region
          go_wp2_with (go_at_call 9; refine (HN.out _).mono ?_; rintro e w3 ⟨rfl, rfl⟩)
          go_region
          go_wp2_with (fail)
          go_region
          go_wp2_with (fail)
          all_goals
            go_roundw
            case rel => exact ⟨k + 1, by omega, by rw [HA.out]; go_num, ⟨_, HO.out, HG.out⟩, B2.out.drew.drew⟩
            case measure => simp [intOf]; omega
        · obtain ⟨c1, hl1⟩ := F1.out hz
          have hNL : nearL a f v = -1 := by unfold nearL; rw [if_neg hz]
          rw [hNL] at HN
          clear hNA hNL T1 T2 F1 F2 hz
          go_wp2_with (fail)
          go_region
          go_wp2_with (go_at_call 9; refine (HN.out _).mono ?_; rintro e w3 ⟨rfl, rfl⟩)
          go_region
          go_wp2_with (fail)
          go_region
          go_wp2_with (fail)
          all_goals
            go_roundw
            case rel => exact ⟨k + 1, by omega, by rw [HA.out]; go_num, ⟨_, HO.out, HG.out⟩, B2.out.drew.drew⟩
            case measure => simp [intOf]; omega
    · obtain rfl : k = m := by omega
      go_wp2_with (go_at_call 11; refine (alive_yes _).mono ?_; rintro e w9 ⟨rfl, b1⟩; have Y1 := Lib.hid (B0.out.trans (b1.mono B0.out.size)); clear b1)
      go_ret
      exact ⟨rfl, Y1.out⟩

end Go.Proofs.Ytmackljhomameaa
