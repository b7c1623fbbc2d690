/- Contracts of find and step, and of the functions over them. -/
import Derived.Test.YtmackljhomameaaFns
import Derived.RegionTactic
import Derived.StillTailTactics
namespace Go.Proofs.Ytmackljhomameaa
open Go.RowKit

theorem gx_bd (n k : Nat) (hn : n = 4 ∨ n = 16) (hk : k < 16) : 0 ≤ gx n k ∧ gx n k < 8 ∧ 0 ≤ gy n k ∧ gy n k < 8 := by
  rcases hn with rfl | rfl
  · simp [gx, gy]; omega
  · simp [gx, gy]; omega

theorem g16_ne : ∀ k, k < 16 → ∀ j, j < k → ¬ (gx 16 k = gx 16 j ∧ gy 16 k = gy 16 j) := by decide
theorem g4_ne : ∀ k, k < 4 → ∀ j, j < k → ¬ (gx 4 k = gx 4 j ∧ gy 4 k = gy 4 j) := by decide

set_option maxRecDepth 100000 in
set_option maxHeartbeats 2000000 in
theorem find16 (k : Nat) (hk : k < 16) (x y : Int) (x0 : -4 ≤ x) (x1 : x ≤ 16) (y0 : -4 ≤ y) (y1 : y ≤ 16) (hx : x % 4 = gx 16 k) (hy : y % 4 = gy 16 k) (w : World) :
    Calls Try.prog 28 #[.int .i64 16, .int .i64 4, .agg #[.int .i64 x, .int .i64 y]] w fun e w' => e = .returned (.int .i64 (k : Int)) ∧ Below w.heap.size w w' := by
  have HX := Lib.hid hx
  have HY := Lib.hid hy
  clear hx hy
  have hx0 : 0 ≤ x + 4 := by omega
  have hy0 : 0 ≤ y + 4 := by omega
  go_enter Try.func28, Try.ntmps28
  go_wp2_with (fail)
  go_region
  go_wp2_with (fail)
  refine (grid16 _).mono ?_
  rintro e w1 ⟨rfl, b1⟩
  obtain ⟨C, hC⟩ : ∃ C, cellsI (gcs 16 16) = C := ⟨_, rfl⟩
  rw [hC]
  have HC := Lib.hid hC
  clear hC
  have hb0 : Below w.heap.size w w1 := (((Below.refl _ w).alloc (Nat.le_refl _) _).drew).trans (b1.mono (by simp))
  have hbx : Box w1 w.heap.size 44 #[.int .i64 (gx 16 k), .int .i64 (gy 16 k)] := by
    have h0 : Box (w.alloc (.cells #[.int .i64 (x % 4), .int .i64 (y % 4)] 44)).drew w.heap.size 44 #[.int .i64 (x % 4), .int .i64 (y % 4)] := Box.new w 44 _
    rw [HX.out, HY.out] at h0 b1
    exact h0.below b1 (by simp)
  have HB0 := Lib.hid hb0
  have HBX := Lib.hid hbx
  have HNE := Lib.hid (g16_ne k hk)
  have HID := Lib.hid idx16
  clear b1 hb0 hbx
  go_wp2_with (fail)
  go_loopw [24] (fun i wr => ∃ j : Nat, j ≤ k ∧ i = .int .i64 j ∧ Box wr w.heap.size 44 #[.int .i64 (gx 16 k), .int .i64 (gy 16 k)] ∧ Below w.heap.size w wr) (fun i _ => 16 - (intOf i).toNat)
  case atStart => exact ⟨0, Nat.zero_le _, rfl, HBX.out, HB0.out⟩
  case round =>
    obtain ⟨j, hj, rfl, hx, hB⟩ := hrel
    have hidx := HID.out j (by omega)
    rw [HC.out] at hidx
    have x0 : wr.cell? ⟨w.heap.size, 0, none⟩ = some (.int .i64 (gx 16 k)) := by simpa using hx.cell 0
    have x1 : wr.cell? ⟨w.heap.size, 1, none⟩ = some (.int .i64 (gy 16 k)) := by simpa using hx.cell 1
    have hlt : w.heap.size < wr.heap.size := hx.lt
    have HXX := Lib.hid hx
    have HBB := Lib.hid hB
    have hj16 : (j : Int) < 16 := by omega
    have hjn : (j : Int) < 16 := by omega
    clear hx hB
    by_cases hjk : j < k
    · have hne := HNE.out j hjk
      have HA := Lib.hid (HXX.out.alloc (.cells #[.int .i64 (gx 16 j), .int .i64 (gy 16 j)] 44))
      have HBA := Lib.hid (HBB.out.alloc HBB.out.size (.cells #[.int .i64 (gx 16 j), .int .i64 (gy 16 j)] 44))
      generalize gx 16 k = a at *
      generalize gy 16 k = b at *
      generalize gx 16 j = c at *
      generalize gy 16 j = d at *
      have heq : (a == c && b == d) = false := by simp; omega
      go_wp2_with (fail)
      all_goals
        go_roundw
        case rel => exact ⟨j + 1, by omega, by go_num, HA.out, HBA.out⟩
        case measure => simp [intOf]; omega
    · obtain rfl : j = k := by omega
      generalize gx 16 j = a at *
      generalize gy 16 j = b at *
      go_wp2_with (fail)
      go_ret
      exact ⟨rfl, HBB.out.alloc HBB.out.size _⟩

set_option maxRecDepth 100000 in
set_option maxHeartbeats 2000000 in
theorem find4 (k : Nat) (hk : k < 4) (x y : Int) (x0 : -2 ≤ x) (x1 : x ≤ 16) (y0 : -2 ≤ y) (y1 : y ≤ 16) (hx : x % 2 = gx 4 k) (hy : y % 2 = gy 4 k) (w : World) :
    Calls Try.prog 28 #[.int .i64 4, .int .i64 2, .agg #[.int .i64 x, .int .i64 y]] w fun e w' => e = .returned (.int .i64 (k : Int)) ∧ Below w.heap.size w w' := by
  have HX := Lib.hid hx
  have HY := Lib.hid hy
  clear hx hy
  have hx0 : 0 ≤ x + 2 := by omega
  have hy0 : 0 ≤ y + 2 := by omega
  go_enter Try.func28, Try.ntmps28
  go_wp2_with (fail)
  go_region
  go_wp2_with (fail)
  refine (grid4 _).mono ?_
  rintro e w1 ⟨rfl, b1⟩
  obtain ⟨C, hC⟩ : ∃ C, cellsI (gcs 4 4) = C := ⟨_, rfl⟩
  rw [hC]
  have HC := Lib.hid hC
  clear hC
  have hb0 : Below w.heap.size w w1 := (((Below.refl _ w).alloc (Nat.le_refl _) _).drew).trans (b1.mono (by simp))
  have hbx : Box w1 w.heap.size 44 #[.int .i64 (gx 4 k), .int .i64 (gy 4 k)] := by
    have h0 : Box (w.alloc (.cells #[.int .i64 (x % 2), .int .i64 (y % 2)] 44)).drew w.heap.size 44 #[.int .i64 (x % 2), .int .i64 (y % 2)] := Box.new w 44 _
    rw [HX.out, HY.out] at h0 b1
    exact h0.below b1 (by simp)
  have HB0 := Lib.hid hb0
  have HBX := Lib.hid hbx
  have HNE := Lib.hid (g4_ne k hk)
  have HID := Lib.hid idx4
  clear b1 hb0 hbx
  go_wp2_with (fail)
  go_loopw [24] (fun i wr => ∃ j : Nat, j ≤ k ∧ i = .int .i64 j ∧ Box wr w.heap.size 44 #[.int .i64 (gx 4 k), .int .i64 (gy 4 k)] ∧ Below w.heap.size w wr) (fun i _ => 16 - (intOf i).toNat)
  case atStart => exact ⟨0, Nat.zero_le _, rfl, HBX.out, HB0.out⟩
  case round =>
    obtain ⟨j, hj, rfl, hx, hB⟩ := hrel
    have hidx := HID.out j (by omega)
    rw [HC.out] at hidx
    have x0 : wr.cell? ⟨w.heap.size, 0, none⟩ = some (.int .i64 (gx 4 k)) := by simpa using hx.cell 0
    have x1 : wr.cell? ⟨w.heap.size, 1, none⟩ = some (.int .i64 (gy 4 k)) := by simpa using hx.cell 1
    have hlt : w.heap.size < wr.heap.size := hx.lt
    have HXX := Lib.hid hx
    have HBB := Lib.hid hB
    have hj16 : (j : Int) < 16 := by omega
    have hjn : (j : Int) < 4 := by omega
    clear hx hB
    by_cases hjk : j < k
    · have hne := HNE.out j hjk
      have HA := Lib.hid (HXX.out.alloc (.cells #[.int .i64 (gx 4 j), .int .i64 (gy 4 j)] 44))
      have HBA := Lib.hid (HBB.out.alloc HBB.out.size (.cells #[.int .i64 (gx 4 j), .int .i64 (gy 4 j)] 44))
      generalize gx 4 k = a at *
      generalize gy 4 k = b at *
      generalize gx 4 j = c at *
      generalize gy 4 j = d at *
      have heq : (a == c && b == d) = false := by simp; omega
      go_wp2_with (fail)
      all_goals
        go_roundw
        case rel => exact ⟨j + 1, by omega, by go_num, HA.out, HBA.out⟩
        case measure => simp [intOf]; omega
    · obtain rfl : j = k := by omega
      generalize gx 4 j = a at *
      generalize gy 4 j = b at *
      go_wp2_with (fail)
      go_ret
      exact ⟨rfl, HBB.out.alloc HBB.out.size _⟩
end Go.Proofs.Ytmackljhomameaa
