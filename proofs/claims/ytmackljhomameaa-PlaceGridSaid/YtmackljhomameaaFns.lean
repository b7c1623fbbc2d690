/- Contracts of the functions of the seat place: At, find, step, Block, Left, Above, ChLeft, ChAbove, Near. -/
import Derived.Test.YtmackljhomameaaBase
namespace Go.Proofs.Ytmackljhomameaa
open Go.RowKit

theorem idx16 (k : Nat) (hk : k < 16) : ∀ w : World, (Instr.index 45 (.agg (cellsI (gcs 16 16))) (.int .i64 (k : Int))).run Try.prog w = .ok (.agg #[.int .i64 (gx 16 k), .int .i64 (gy 16 k)]) w := by
  have h : k = 0 ∨ k = 1 ∨ k = 2 ∨ k = 3 ∨ k = 4 ∨ k = 5 ∨ k = 6 ∨ k = 7 ∨ k = 8 ∨ k = 9 ∨ k = 10 ∨ k = 11 ∨ k = 12 ∨ k = 13 ∨ k = 14 ∨ k = 15 := by omega
  rcases h with rfl | rfl | rfl | rfl | rfl | rfl | rfl | rfl | rfl | rfl | rfl | rfl | rfl | rfl | rfl | rfl <;> intro w <;> kernel_rfl

theorem idx4 (k : Nat) (hk : k < 4) : ∀ w : World, (Instr.index 45 (.agg (cellsI (gcs 4 4))) (.int .i64 (k : Int))).run Try.prog w = .ok (.agg #[.int .i64 (gx 4 k), .int .i64 (gy 4 k)]) w := by
  have h : k = 0 ∨ k = 1 ∨ k = 2 ∨ k = 3 := by omega
  rcases h with rfl | rfl | rfl | rfl <;> intro w <;> kernel_rfl

theorem idx4z (k : Nat) (h4 : ¬ k < 4) (hk : k < 16) : ∀ w : World, (Instr.index 45 (.agg (cellsI (gcs 4 4))) (.int .i64 (k : Int))).run Try.prog w = .ok (.agg #[.int .i64 0, .int .i64 0]) w := by
  have h : k = 4 ∨ k = 5 ∨ k = 6 ∨ k = 7 ∨ k = 8 ∨ k = 9 ∨ k = 10 ∨ k = 11 ∨ k = 12 ∨ k = 13 ∨ k = 14 ∨ k = 15 := by omega
  rcases h with rfl | rfl | rfl | rfl | rfl | rfl | rfl | rfl | rfl | rfl | rfl | rfl <;> intro w <;> kernel_rfl

set_option maxHeartbeats 1000000 in
theorem at_no (k : Int) (h : k < 0 ∨ 15 < k) (w : World) :
    Calls Try.prog 17 #[.int .i64 k] w fun e w' => e = .returned (.tuple #[.int .i64 0, .int .i64 0, .int .i64 3]) ∧ w = w' := by
  rcases h with h | h
  · go_enter Try.func17, Try.ntmps17
    go_wp2
    go_ret3
    exact ⟨rfl, rfl⟩
  · have h' : ¬ k < 0 := by omega
    go_enter Try.func17, Try.ntmps17
    go_wp2
    go_ret3
    exact ⟨rfl, rfl⟩

set_option maxHeartbeats 1000000 in
theorem at_yes (k : Nat) (hk : k < 16) (w : World) :
    Calls Try.prog 17 #[.int .i64 (k : Int)] w fun e w' => e = .returned (.tuple #[.int .i64 (gx 16 k), .int .i64 (gy 16 k), .int .i64 0]) ∧ Below w.heap.size w w' := by
  have hi := idx16 k hk
  have k0 : (0 : Int) ≤ (k : Int) := by omega
  have k1 : (k : Int) ≤ 15 := by omega
  have k2 : ¬ (k : Int) < 0 := by omega
  have k3 : ¬ (15 : Int) < (k : Int) := by omega
  generalize gx 16 k = x at *
  generalize gy 16 k = y at *
  go_enter Try.func17, Try.ntmps17
  go_wp2_with (fail)
  refine (grid16 _).mono ?_
  rintro e w1 ⟨rfl, b1⟩
  generalize cellsI (gcs 16 16) = C at *
  have HB := Lib.hid b1
  clear b1
  go_wp2_with (fail)
  go_quiet (fail)
  go_wp2_with (fail)
  go_ret3
  exact ⟨rfl, (HB.out.alloc HB.out.size _).drewN _⟩

set_option maxHeartbeats 1000000 in
theorem near_no (a f n : Int) (h : n < 1 ∨ 128 < n ∨ f < 0 ∨ 8160 ≤ f ∨ a < f ∨ 8160 ≤ a) (w : World) (g : Nat) (hg : g = 9 ∨ g = 10) :
    Calls Try.prog g #[.int .i64 a, .int .i64 f, .int .i64 n] w fun e w' => e = .returned (.tuple #[.int .i64 0, .int .i64 0, .int .i64 3]) ∧ w = w' := by
  have hc : n < 1 ∨ (¬ n < 1 ∧ 128 < n) ∨ (¬ n < 1 ∧ ¬ 128 < n ∧ f < 0) ∨ (¬ n < 1 ∧ ¬ 128 < n ∧ ¬ f < 0 ∧ 8160 ≤ f) ∨ (¬ n < 1 ∧ ¬ 128 < n ∧ ¬ f < 0 ∧ ¬ 8160 ≤ f ∧ a < f) ∨ (¬ n < 1 ∧ ¬ 128 < n ∧ ¬ f < 0 ∧ ¬ 8160 ≤ f ∧ ¬ a < f ∧ 8160 ≤ a) := by omega
  clear h
  rcases hg with rfl | rfl
  all_goals
    rcases hc with h1 | ⟨h1, h2⟩ | ⟨h1, h2, h3⟩ | ⟨h1, h2, h3, h4⟩ | ⟨h1, h2, h3, h4, h5⟩ | ⟨h1, h2, h3, h4, h5, h6⟩
    all_goals
      first | go_enter Try.func9, Try.ntmps9 | go_enter Try.func10, Try.ntmps10
      go_wp2
      go_ret3
      exact ⟨rfl, rfl⟩

/-- What Near returns. -/
def nearL (a f n : Int) : Int := if a % n ≠ 0 ∧ f < a then a - 1 else -1
def nearA (a f n : Int) : Int := if f ≤ a - n then a - n else -1

set_option maxHeartbeats 1000000 in
theorem near_yes (a f n : Int) (h1 : 1 ≤ n) (h2 : n ≤ 128) (h3 : 0 ≤ f) (h4 : f ≤ 8159) (h5 : f ≤ a) (h6 : a ≤ 8159) (w : World) (g : Nat) (hg : g = 9 ∨ g = 10) :
    Calls Try.prog g #[.int .i64 a, .int .i64 f, .int .i64 n] w fun e w' => e = .returned (.tuple #[.int .i64 (nearL a f n), .int .i64 (nearA a f n), .int .i64 0]) ∧ w = w' := by
  have h0 : 0 ≤ a := by omega
  rcases hg with rfl | rfl
  all_goals
    by_cases c1 : a % n = 0
    · have e1 : (a % n != 0) = false := by simp [c1]
      have hL : nearL a f n = -1 := by simp [nearL, c1]
      by_cases c3 : f ≤ a - n
      · have hA : nearA a f n = a - n := by simp [nearA, c3]
        have HL := Lib.hid hL
        have HA := Lib.hid hA
        clear hL hA c1
        first | go_enter Try.func9, Try.ntmps9 | go_enter Try.func10, Try.ntmps10
        go_wp2
        go_ret3
        exact ⟨by rw [HL.out, HA.out]; rfl, rfl⟩
      · have hA : nearA a f n = -1 := by simp [nearA, c3]
        have HL := Lib.hid hL
        have HA := Lib.hid hA
        clear hL hA c1
        first | go_enter Try.func9, Try.ntmps9 | go_enter Try.func10, Try.ntmps10
        go_wp2
        go_ret3
        exact ⟨by rw [HL.out, HA.out]; rfl, rfl⟩
    · have e1 : (a % n != 0) = true := by simp [c1]
      by_cases c2 : f < a
      · have hL : nearL a f n = a - 1 := by simp [nearL, c1, c2]
        have c2' : f ≤ a - 1 := by omega
        by_cases c3 : f ≤ a - n
        · have hA : nearA a f n = a - n := by simp [nearA, c3]
          have HL := Lib.hid hL
          have HA := Lib.hid hA
          clear hL hA c1
          first | go_enter Try.func9, Try.ntmps9 | go_enter Try.func10, Try.ntmps10
          go_wp2
          go_ret3
          exact ⟨by rw [HL.out, HA.out]; rfl, rfl⟩
        · have hA : nearA a f n = -1 := by simp [nearA, c3]
          have HL := Lib.hid hL
          have HA := Lib.hid hA
          clear hL hA c1
          first | go_enter Try.func9, Try.ntmps9 | go_enter Try.func10, Try.ntmps10
          go_wp2
          go_ret3
          exact ⟨by rw [HL.out, HA.out]; rfl, rfl⟩
      · have hL : nearL a f n = -1 := by simp [nearL, c1]; omega
        have c2' : ¬ f ≤ a - 1 := by omega
        have c3 : ¬ f ≤ a - n := by omega
        have hA : nearA a f n = -1 := by simp [nearA, c3]
        have HL := Lib.hid hL
        have HA := Lib.hid hA
        clear hL hA c1
        first | go_enter Try.func9, Try.ntmps9 | go_enter Try.func10, Try.ntmps10
        go_wp2
        go_ret3
        exact ⟨by rw [HL.out, HA.out]; rfl, rfl⟩
end Go.Proofs.Ytmackljhomameaa
