/- Contracts of step, Left, Above, ChLeft, ChAbove and Block. -/
import Derived.Test.YtmackljhomameaaFind
import Derived.Deep.RegionHeld3
import Derived.Deep.RegionLaw
namespace Go.Proofs.Ytmackljhomameaa
open Go.RowKit

/-- The block at a place. -/
def at2 (n : Nat) (x y : Int) : Nat := ((List.range n).find? (fun m => gx n m == x && gy n m == y)).getD 0
/-- The block one column, or one row, back. -/
def mvX (n : Nat) (side : Int) (k : Nat) : Nat := at2 n ((gx n k - 1) % side) (gy n k)
def mvY (n : Nat) (side : Int) (k : Nat) : Nat := at2 n (gx n k) ((gy n k - 1) % side)

theorem mvX16 : ∀ k, k < 16 → mvX 16 4 k < 16 ∧ (gx 16 k - 1) % 4 = gx 16 (mvX 16 4 k) ∧ gy 16 k % 4 = gy 16 (mvX 16 4 k) := by decide
theorem mvY16 : ∀ k, k < 16 → mvY 16 4 k < 16 ∧ gx 16 k % 4 = gx 16 (mvY 16 4 k) ∧ (gy 16 k - 1) % 4 = gy 16 (mvY 16 4 k) := by decide
theorem mvX4 : ∀ k, k < 4 → mvX 4 2 k < 4 ∧ (gx 4 k - 1) % 2 = gx 4 (mvX 4 2 k) ∧ gy 4 k % 2 = gy 4 (mvX 4 2 k) := by decide
theorem mvY4 : ∀ k, k < 4 → mvY 4 2 k < 4 ∧ gx 4 k % 2 = gx 4 (mvY 4 2 k) ∧ (gy 4 k - 1) % 2 = gy 4 (mvY 4 2 k) := by decide
theorem g16_bd : ∀ k, k < 16 → 0 ≤ gx 16 k ∧ gx 16 k ≤ 3 ∧ 0 ≤ gy 16 k ∧ gy 16 k ≤ 3 := by decide
theorem g4_bd : ∀ k, k < 4 → 0 ≤ gx 4 k ∧ gx 4 k ≤ 1 ∧ 0 ≤ gy 4 k ∧ gy 4 k ≤ 1 := by decide

set_option maxRecDepth 100000 in
set_option maxHeartbeats 4000000 in
theorem stepX16p (k : Nat) (hk : k < 16) (a b : Int) (a0 : 0 ≤ a) (a1 : a ≤ 3) (b0 : 0 ≤ b) (b1 : b ≤ 3) (hc : 1 ≤ a) (m : Nat) (m0 : m < 16) (m1 : (a + -1) % 4 = gx 16 m) (m2 : b % 4 = gy 16 m)
    (hi : ∀ w : World, (Instr.index 45 (.agg (cellsI (gcs 16 16))) (.int .i64 (k : Int))).run Try.prog w = .ok (.agg #[.int .i64 a, .int .i64 b]) w) (w : World) :
    Calls Try.prog 26 #[.int .i64 16, .int .i64 4, .int .i64 (k : Int), .int .i64 (-1), .int .i64 0] w fun e w' => e = .returned (.tuple #[.int .i64 (m : Int), .bool true, .int .i64 0]) ∧ Below w.heap.size w w' := by
  have k0 : (0 : Int) ≤ (k : Int) := by omega
  have k1 : (k : Int) < 16 := by omega
  have M1 := Lib.hid m1
  have M2 := Lib.hid m2
  clear m1 m2
  have d1 : decide (0 ≤ a + -1) = true := by simp; omega
  have d2 : decide (0 ≤ b) = true := by simp; omega
  go_enter Try.func26, Try.ntmps26
  go_wp2_with (fail)
  refine (grid16 _).mono ?_
  rintro e w1 ⟨rfl, bb⟩
  have BB := Lib.hid bb
  generalize cellsI (gcs 16 16) = C at *
  clear bb
  go_wp2_with (fail)
  have fin : ∀ w3 : World, Below (w1.heap.size + 1) (w1.alloc (.cells #[.int .i64 (a + -1), .int .i64 (b)] 44)) w3 → Below w.heap.size w w3 := fun w3 b3 => (BB.out.alloc BB.out.size _).trans (b3.mono (by have := BB.out.size; omega))
  have FIN := Lib.hid fin
  clear fin
  go_region_held3 (fun w' => w'.cell? ⟨w1.heap.size, 0, none⟩ = some (.int .i64 (a + -1)) ∧ w'.cell? ⟨w1.heap.size, 1, none⟩ = some (.int .i64 (b)))
    (first
      | go_keep
      | (go_split_ands
         exact ⟨c0, c1⟩))
    (first
      | (go_at_call 28; refine (find16 m m0 _ _ (by omega) (by omega) (by omega) (by omega) M1.out M2.out _).mono ?_; rintro e w3 ⟨rfl, b3⟩; have c0 : w3.cell? ⟨w1.heap.size, 0, none⟩ = some (.int .i64 (a + -1)) := (by rw [b3.cell (p := ⟨w1.heap.size, 0, none⟩) (by simp)]; simp); have c1 : w3.cell? ⟨w1.heap.size, 1, none⟩ = some (.int .i64 (b)) := (by rw [b3.cell (p := ⟨w1.heap.size, 1, none⟩) (by simp)]; simp); have HB3 := Lib.hid (show Below (w1.heap.size + 1) (w1.alloc (.cells #[.int .i64 (a + -1), .int .i64 (b)] 44)) w3 from ((Below.refl _ _).drew.trans (b3.mono (by simp)))); clear b3))
  go_wp2
  go_ret3
  exact ⟨rfl, FIN.out _ HB3.out⟩

set_option maxRecDepth 100000 in
set_option maxHeartbeats 4000000 in
theorem stepX16n (k : Nat) (hk : k < 16) (b : Int) (b0 : 0 ≤ b) (b1 : b ≤ 3) (m : Nat) (m0 : m < 16) (m1 : (-1) % 4 = gx 16 m) (m2 : b % 4 = gy 16 m)
    (hi : ∀ w : World, (Instr.index 45 (.agg (cellsI (gcs 16 16))) (.int .i64 (k : Int))).run Try.prog w = .ok (.agg #[.int .i64 0, .int .i64 b]) w) (w : World) :
    Calls Try.prog 26 #[.int .i64 16, .int .i64 4, .int .i64 (k : Int), .int .i64 (-1), .int .i64 0] w fun e w' => e = .returned (.tuple #[.int .i64 (m : Int), .bool false, .int .i64 0]) ∧ Below w.heap.size w w' := by
  have k0 : (0 : Int) ≤ (k : Int) := by omega
  have k1 : (k : Int) < 16 := by omega
  have M1 := Lib.hid m1
  have M2 := Lib.hid m2
  clear m1 m2
  go_enter Try.func26, Try.ntmps26
  go_wp2_with (fail)
  refine (grid16 _).mono ?_
  rintro e w1 ⟨rfl, bb⟩
  have BB := Lib.hid bb
  generalize cellsI (gcs 16 16) = C at *
  clear bb
  go_wp2_with (fail)
  have fin : ∀ w3 : World, Below (w1.heap.size + 1) (w1.alloc (.cells #[.int .i64 (-1), .int .i64 (b)] 44)) w3 → Below w.heap.size w w3 := fun w3 b3 => (BB.out.alloc BB.out.size _).trans (b3.mono (by have := BB.out.size; omega))
  have FIN := Lib.hid fin
  clear fin
  first
  | (go_region_law ((go_simp; go_at_call 28; refine (find16 m m0 _ _ (by omega) (by omega) (by omega) (by omega) M1.out M2.out _).mono ?_; rintro e w3 ⟨rfl, b3⟩; have c0 : w3.cell? ⟨w1.heap.size, 0, none⟩ = some (.int .i64 (-1)) := (by rw [b3.cell (p := ⟨w1.heap.size, 0, none⟩) (by simp)]; simp); have c1 : w3.cell? ⟨w1.heap.size, 1, none⟩ = some (.int .i64 (b)) := (by rw [b3.cell (p := ⟨w1.heap.size, 1, none⟩) (by simp)]; simp); have HB3 := Lib.hid (show Below (w1.heap.size + 1) (w1.alloc (.cells #[.int .i64 (-1), .int .i64 (b)] 44)) w3 from ((Below.refl _ _).drew.trans (b3.mono (by simp)))); clear b3)))
  | fail "region"
  all_goals
    go_wp2
    go_ret3
    exact ⟨rfl, FIN.out _ HB3.out⟩

theorem stepX16 (k : Nat) (hk : k < 16) (w : World) :
    Calls Try.prog 26 #[.int .i64 16, .int .i64 4, .int .i64 (k : Int), .int .i64 (-1), .int .i64 0] w fun e w' => e = .returned (.tuple #[.int .i64 (mvX 16 4 k : Int), .bool (decide (1 ≤ gx 16 k)), .int .i64 0]) ∧ Below w.heap.size w w' := by
  obtain ⟨m0, m1, m2⟩ := mvX16 k hk
  obtain ⟨a0, a1, b0, b1⟩ := g16_bd k hk
  have hi := idx16 k hk
  by_cases hc : 1 ≤ gx 16 k
  · rw [decide_eq_true hc]
    exact stepX16p k hk (gx 16 k) (gy 16 k) a0 (by omega) b0 (by omega) hc _ m0 (by rw [← m1]; rfl) m2 hi w
  · rw [decide_eq_false hc]
    have hz : gx 16 k = 0 := by omega
    rw [hz] at hi m1
    exact stepX16n k hk (gy 16 k) b0 (by omega) _ m0 m1 m2 hi w

set_option maxRecDepth 100000 in
set_option maxHeartbeats 4000000 in
theorem stepY16p (k : Nat) (hk : k < 16) (a b : Int) (a0 : 0 ≤ a) (a1 : a ≤ 3) (b0 : 0 ≤ b) (b1 : b ≤ 3) (hc : 1 ≤ b) (m : Nat) (m0 : m < 16) (m1 : a % 4 = gx 16 m) (m2 : (b + -1) % 4 = gy 16 m)
    (hi : ∀ w : World, (Instr.index 45 (.agg (cellsI (gcs 16 16))) (.int .i64 (k : Int))).run Try.prog w = .ok (.agg #[.int .i64 a, .int .i64 b]) w) (w : World) :
    Calls Try.prog 26 #[.int .i64 16, .int .i64 4, .int .i64 (k : Int), .int .i64 0, .int .i64 (-1)] w fun e w' => e = .returned (.tuple #[.int .i64 (m : Int), .bool true, .int .i64 0]) ∧ Below w.heap.size w w' := by
  have k0 : (0 : Int) ≤ (k : Int) := by omega
  have k1 : (k : Int) < 16 := by omega
  have M1 := Lib.hid m1
  have M2 := Lib.hid m2
  clear m1 m2
  have d1 : decide (0 ≤ a) = true := by simp; omega
  have d2 : decide (0 ≤ b + -1) = true := by simp; omega
  go_enter Try.func26, Try.ntmps26
  go_wp2_with (fail)
  refine (grid16 _).mono ?_
  rintro e w1 ⟨rfl, bb⟩
  have BB := Lib.hid bb
  generalize cellsI (gcs 16 16) = C at *
  clear bb
  go_wp2_with (fail)
  have fin : ∀ w3 : World, Below (w1.heap.size + 1) (w1.alloc (.cells #[.int .i64 (a), .int .i64 (b + -1)] 44)) w3 → Below w.heap.size w w3 := fun w3 b3 => (BB.out.alloc BB.out.size _).trans (b3.mono (by have := BB.out.size; omega))
  have FIN := Lib.hid fin
  clear fin
  go_region_held3 (fun w' => w'.cell? ⟨w1.heap.size, 0, none⟩ = some (.int .i64 (a)) ∧ w'.cell? ⟨w1.heap.size, 1, none⟩ = some (.int .i64 (b + -1)))
    (first
      | go_keep
      | (go_split_ands
         exact ⟨c0, c1⟩))
    (first
      | (go_at_call 28; refine (find16 m m0 _ _ (by omega) (by omega) (by omega) (by omega) M1.out M2.out _).mono ?_; rintro e w3 ⟨rfl, b3⟩; have c0 : w3.cell? ⟨w1.heap.size, 0, none⟩ = some (.int .i64 (a)) := (by rw [b3.cell (p := ⟨w1.heap.size, 0, none⟩) (by simp)]; simp); have c1 : w3.cell? ⟨w1.heap.size, 1, none⟩ = some (.int .i64 (b + -1)) := (by rw [b3.cell (p := ⟨w1.heap.size, 1, none⟩) (by simp)]; simp); have HB3 := Lib.hid (show Below (w1.heap.size + 1) (w1.alloc (.cells #[.int .i64 (a), .int .i64 (b + -1)] 44)) w3 from ((Below.refl _ _).drew.trans (b3.mono (by simp)))); clear b3))
  go_wp2
  go_ret3
  exact ⟨rfl, FIN.out _ HB3.out⟩

set_option maxRecDepth 100000 in
set_option maxHeartbeats 4000000 in
theorem stepY16n (k : Nat) (hk : k < 16) (a : Int) (a0 : 0 ≤ a) (a1 : a ≤ 3) (m : Nat) (m0 : m < 16) (m1 : a % 4 = gx 16 m) (m2 : (-1) % 4 = gy 16 m)
    (hi : ∀ w : World, (Instr.index 45 (.agg (cellsI (gcs 16 16))) (.int .i64 (k : Int))).run Try.prog w = .ok (.agg #[.int .i64 a, .int .i64 0]) w) (w : World) :
    Calls Try.prog 26 #[.int .i64 16, .int .i64 4, .int .i64 (k : Int), .int .i64 0, .int .i64 (-1)] w fun e w' => e = .returned (.tuple #[.int .i64 (m : Int), .bool false, .int .i64 0]) ∧ Below w.heap.size w w' := by
  have k0 : (0 : Int) ≤ (k : Int) := by omega
  have k1 : (k : Int) < 16 := by omega
  have M1 := Lib.hid m1
  have M2 := Lib.hid m2
  clear m1 m2
  go_enter Try.func26, Try.ntmps26
  go_wp2_with (fail)
  refine (grid16 _).mono ?_
  rintro e w1 ⟨rfl, bb⟩
  have BB := Lib.hid bb
  generalize cellsI (gcs 16 16) = C at *
  clear bb
  go_wp2_with (fail)
  have fin : ∀ w3 : World, Below (w1.heap.size + 1) (w1.alloc (.cells #[.int .i64 (a), .int .i64 (-1)] 44)) w3 → Below w.heap.size w w3 := fun w3 b3 => (BB.out.alloc BB.out.size _).trans (b3.mono (by have := BB.out.size; omega))
  have FIN := Lib.hid fin
  clear fin
  go_region_held3 (fun w' => w'.cell? ⟨w1.heap.size, 0, none⟩ = some (.int .i64 (a)) ∧ w'.cell? ⟨w1.heap.size, 1, none⟩ = some (.int .i64 (-1)))
    (first
      | go_keep
      | (go_split_ands
         exact ⟨c0, c1⟩))
    (first
      | (go_at_call 28; refine (find16 m m0 _ _ (by omega) (by omega) (by omega) (by omega) M1.out M2.out _).mono ?_; rintro e w3 ⟨rfl, b3⟩; have c0 : w3.cell? ⟨w1.heap.size, 0, none⟩ = some (.int .i64 (a)) := (by rw [b3.cell (p := ⟨w1.heap.size, 0, none⟩) (by simp)]; simp); have c1 : w3.cell? ⟨w1.heap.size, 1, none⟩ = some (.int .i64 (-1)) := (by rw [b3.cell (p := ⟨w1.heap.size, 1, none⟩) (by simp)]; simp); have HB3 := Lib.hid (show Below (w1.heap.size + 1) (w1.alloc (.cells #[.int .i64 (a), .int .i64 (-1)] 44)) w3 from ((Below.refl _ _).drew.trans (b3.mono (by simp)))); clear b3))
  go_wp2
  go_ret3
  exact ⟨rfl, FIN.out _ HB3.out⟩

theorem stepY16 (k : Nat) (hk : k < 16) (w : World) :
    Calls Try.prog 26 #[.int .i64 16, .int .i64 4, .int .i64 (k : Int), .int .i64 0, .int .i64 (-1)] w fun e w' => e = .returned (.tuple #[.int .i64 (mvY 16 4 k : Int), .bool (decide (1 ≤ gy 16 k)), .int .i64 0]) ∧ Below w.heap.size w w' := by
  obtain ⟨m0, m1, m2⟩ := mvY16 k hk
  obtain ⟨a0, a1, b0, b1⟩ := g16_bd k hk
  have hi := idx16 k hk
  by_cases hc : 1 ≤ gy 16 k
  · rw [decide_eq_true hc]
    exact stepY16p k hk (gx 16 k) (gy 16 k) a0 (by omega) b0 (by omega) hc _ m0 m1 (by rw [← m2]; rfl) hi w
  · rw [decide_eq_false hc]
    have hz : gy 16 k = 0 := by omega
    rw [hz] at hi m2
    exact stepY16n k hk (gx 16 k) a0 (by omega) _ m0 m1 m2 hi w

set_option maxRecDepth 100000 in
set_option maxHeartbeats 4000000 in
theorem stepX4p (k : Nat) (hk : k < 4) (a b : Int) (a0 : 0 ≤ a) (a1 : a ≤ 3) (b0 : 0 ≤ b) (b1 : b ≤ 3) (hc : 1 ≤ a) (m : Nat) (m0 : m < 4) (m1 : (a + -1) % 2 = gx 4 m) (m2 : b % 2 = gy 4 m)
    (hi : ∀ w : World, (Instr.index 45 (.agg (cellsI (gcs 4 4))) (.int .i64 (k : Int))).run Try.prog w = .ok (.agg #[.int .i64 a, .int .i64 b]) w) (w : World) :
    Calls Try.prog 26 #[.int .i64 4, .int .i64 2, .int .i64 (k : Int), .int .i64 (-1), .int .i64 0] w fun e w' => e = .returned (.tuple #[.int .i64 (m : Int), .bool true, .int .i64 0]) ∧ Below w.heap.size w w' := by
  have k0 : (0 : Int) ≤ (k : Int) := by omega
  have k1 : (k : Int) < 4 := by omega
  have M1 := Lib.hid m1
  have M2 := Lib.hid m2
  clear m1 m2
  have d1 : decide (0 ≤ a + -1) = true := by simp; omega
  have d2 : decide (0 ≤ b) = true := by simp; omega
  go_enter Try.func26, Try.ntmps26
  go_wp2_with (fail)
  refine (grid4 _).mono ?_
  rintro e w1 ⟨rfl, bb⟩
  have BB := Lib.hid bb
  generalize cellsI (gcs 4 4) = C at *
  clear bb
  go_wp2_with (fail)
  have fin : ∀ w3 : World, Below (w1.heap.size + 1) (w1.alloc (.cells #[.int .i64 (a + -1), .int .i64 (b)] 44)) w3 → Below w.heap.size w w3 := fun w3 b3 => (BB.out.alloc BB.out.size _).trans (b3.mono (by have := BB.out.size; omega))
  have FIN := Lib.hid fin
  clear fin
  go_region_held3 (fun w' => w'.cell? ⟨w1.heap.size, 0, none⟩ = some (.int .i64 (a + -1)) ∧ w'.cell? ⟨w1.heap.size, 1, none⟩ = some (.int .i64 (b)))
    (first
      | go_keep
      | (go_split_ands
         exact ⟨c0, c1⟩))
    (first
      | (go_at_call 28; refine (find4 m m0 _ _ (by omega) (by omega) (by omega) (by omega) M1.out M2.out _).mono ?_; rintro e w3 ⟨rfl, b3⟩; have c0 : w3.cell? ⟨w1.heap.size, 0, none⟩ = some (.int .i64 (a + -1)) := (by rw [b3.cell (p := ⟨w1.heap.size, 0, none⟩) (by simp)]; simp); have c1 : w3.cell? ⟨w1.heap.size, 1, none⟩ = some (.int .i64 (b)) := (by rw [b3.cell (p := ⟨w1.heap.size, 1, none⟩) (by simp)]; simp); have HB3 := Lib.hid (show Below (w1.heap.size + 1) (w1.alloc (.cells #[.int .i64 (a + -1), .int .i64 (b)] 44)) w3 from ((Below.refl _ _).drew.trans (b3.mono (by simp)))); clear b3))
  go_wp2
  go_ret3
  exact ⟨rfl, FIN.out _ HB3.out⟩

set_option maxRecDepth 100000 in
set_option maxHeartbeats 4000000 in
theorem stepX4n (k : Nat) (hk : k < 4) (b : Int) (b0 : 0 ≤ b) (b1 : b ≤ 3) (m : Nat) (m0 : m < 4) (m1 : (-1) % 2 = gx 4 m) (m2 : b % 2 = gy 4 m)
    (hi : ∀ w : World, (Instr.index 45 (.agg (cellsI (gcs 4 4))) (.int .i64 (k : Int))).run Try.prog w = .ok (.agg #[.int .i64 0, .int .i64 b]) w) (w : World) :
    Calls Try.prog 26 #[.int .i64 4, .int .i64 2, .int .i64 (k : Int), .int .i64 (-1), .int .i64 0] w fun e w' => e = .returned (.tuple #[.int .i64 (m : Int), .bool false, .int .i64 0]) ∧ Below w.heap.size w w' := by
  have k0 : (0 : Int) ≤ (k : Int) := by omega
  have k1 : (k : Int) < 4 := by omega
  have M1 := Lib.hid m1
  have M2 := Lib.hid m2
  clear m1 m2
  go_enter Try.func26, Try.ntmps26
  go_wp2_with (fail)
  refine (grid4 _).mono ?_
  rintro e w1 ⟨rfl, bb⟩
  have BB := Lib.hid bb
  generalize cellsI (gcs 4 4) = C at *
  clear bb
  go_wp2_with (fail)
  have fin : ∀ w3 : World, Below (w1.heap.size + 1) (w1.alloc (.cells #[.int .i64 (-1), .int .i64 (b)] 44)) w3 → Below w.heap.size w w3 := fun w3 b3 => (BB.out.alloc BB.out.size _).trans (b3.mono (by have := BB.out.size; omega))
  have FIN := Lib.hid fin
  clear fin
  first
  | (go_region_law ((go_simp; go_at_call 28; refine (find4 m m0 _ _ (by omega) (by omega) (by omega) (by omega) M1.out M2.out _).mono ?_; rintro e w3 ⟨rfl, b3⟩; have c0 : w3.cell? ⟨w1.heap.size, 0, none⟩ = some (.int .i64 (-1)) := (by rw [b3.cell (p := ⟨w1.heap.size, 0, none⟩) (by simp)]; simp); have c1 : w3.cell? ⟨w1.heap.size, 1, none⟩ = some (.int .i64 (b)) := (by rw [b3.cell (p := ⟨w1.heap.size, 1, none⟩) (by simp)]; simp); have HB3 := Lib.hid (show Below (w1.heap.size + 1) (w1.alloc (.cells #[.int .i64 (-1), .int .i64 (b)] 44)) w3 from ((Below.refl _ _).drew.trans (b3.mono (by simp)))); clear b3)))
  | fail "region"
  all_goals
    go_wp2
    go_ret3
    exact ⟨rfl, FIN.out _ HB3.out⟩

theorem stepX4 (k : Nat) (hk : k < 4) (w : World) :
    Calls Try.prog 26 #[.int .i64 4, .int .i64 2, .int .i64 (k : Int), .int .i64 (-1), .int .i64 0] w fun e w' => e = .returned (.tuple #[.int .i64 (mvX 4 2 k : Int), .bool (decide (1 ≤ gx 4 k)), .int .i64 0]) ∧ Below w.heap.size w w' := by
  obtain ⟨m0, m1, m2⟩ := mvX4 k hk
  obtain ⟨a0, a1, b0, b1⟩ := g4_bd k hk
  have hi := idx4 k hk
  by_cases hc : 1 ≤ gx 4 k
  · rw [decide_eq_true hc]
    exact stepX4p k hk (gx 4 k) (gy 4 k) a0 (by omega) b0 (by omega) hc _ m0 (by rw [← m1]; rfl) m2 hi w
  · rw [decide_eq_false hc]
    have hz : gx 4 k = 0 := by omega
    rw [hz] at hi m1
    exact stepX4n k hk (gy 4 k) b0 (by omega) _ m0 m1 m2 hi w

set_option maxRecDepth 100000 in
set_option maxHeartbeats 4000000 in
theorem stepY4p (k : Nat) (hk : k < 4) (a b : Int) (a0 : 0 ≤ a) (a1 : a ≤ 3) (b0 : 0 ≤ b) (b1 : b ≤ 3) (hc : 1 ≤ b) (m : Nat) (m0 : m < 4) (m1 : a % 2 = gx 4 m) (m2 : (b + -1) % 2 = gy 4 m)
    (hi : ∀ w : World, (Instr.index 45 (.agg (cellsI (gcs 4 4))) (.int .i64 (k : Int))).run Try.prog w = .ok (.agg #[.int .i64 a, .int .i64 b]) w) (w : World) :
    Calls Try.prog 26 #[.int .i64 4, .int .i64 2, .int .i64 (k : Int), .int .i64 0, .int .i64 (-1)] w fun e w' => e = .returned (.tuple #[.int .i64 (m : Int), .bool true, .int .i64 0]) ∧ Below w.heap.size w w' := by
  have k0 : (0 : Int) ≤ (k : Int) := by omega
  have k1 : (k : Int) < 4 := by omega
  have M1 := Lib.hid m1
  have M2 := Lib.hid m2
  clear m1 m2
  have d1 : decide (0 ≤ a) = true := by simp; omega
  have d2 : decide (0 ≤ b + -1) = true := by simp; omega
  go_enter Try.func26, Try.ntmps26
  go_wp2_with (fail)
  refine (grid4 _).mono ?_
  rintro e w1 ⟨rfl, bb⟩
  have BB := Lib.hid bb
  generalize cellsI (gcs 4 4) = C at *
  clear bb
  go_wp2_with (fail)
  have fin : ∀ w3 : World, Below (w1.heap.size + 1) (w1.alloc (.cells #[.int .i64 (a), .int .i64 (b + -1)] 44)) w3 → Below w.heap.size w w3 := fun w3 b3 => (BB.out.alloc BB.out.size _).trans (b3.mono (by have := BB.out.size; omega))
  have FIN := Lib.hid fin
  clear fin
  go_region_held3 (fun w' => w'.cell? ⟨w1.heap.size, 0, none⟩ = some (.int .i64 (a)) ∧ w'.cell? ⟨w1.heap.size, 1, none⟩ = some (.int .i64 (b + -1)))
    (first
      | go_keep
      | (go_split_ands
         exact ⟨c0, c1⟩))
    (first
      | (go_at_call 28; refine (find4 m m0 _ _ (by omega) (by omega) (by omega) (by omega) M1.out M2.out _).mono ?_; rintro e w3 ⟨rfl, b3⟩; have c0 : w3.cell? ⟨w1.heap.size, 0, none⟩ = some (.int .i64 (a)) := (by rw [b3.cell (p := ⟨w1.heap.size, 0, none⟩) (by simp)]; simp); have c1 : w3.cell? ⟨w1.heap.size, 1, none⟩ = some (.int .i64 (b + -1)) := (by rw [b3.cell (p := ⟨w1.heap.size, 1, none⟩) (by simp)]; simp); have HB3 := Lib.hid (show Below (w1.heap.size + 1) (w1.alloc (.cells #[.int .i64 (a), .int .i64 (b + -1)] 44)) w3 from ((Below.refl _ _).drew.trans (b3.mono (by simp)))); clear b3))
  go_wp2
  go_ret3
  exact ⟨rfl, FIN.out _ HB3.out⟩

set_option maxRecDepth 100000 in
set_option maxHeartbeats 4000000 in
theorem stepY4n (k : Nat) (hk : k < 4) (a : Int) (a0 : 0 ≤ a) (a1 : a ≤ 3) (m : Nat) (m0 : m < 4) (m1 : a % 2 = gx 4 m) (m2 : (-1) % 2 = gy 4 m)
    (hi : ∀ w : World, (Instr.index 45 (.agg (cellsI (gcs 4 4))) (.int .i64 (k : Int))).run Try.prog w = .ok (.agg #[.int .i64 a, .int .i64 0]) w) (w : World) :
    Calls Try.prog 26 #[.int .i64 4, .int .i64 2, .int .i64 (k : Int), .int .i64 0, .int .i64 (-1)] w fun e w' => e = .returned (.tuple #[.int .i64 (m : Int), .bool false, .int .i64 0]) ∧ Below w.heap.size w w' := by
  have k0 : (0 : Int) ≤ (k : Int) := by omega
  have k1 : (k : Int) < 4 := by omega
  have M1 := Lib.hid m1
  have M2 := Lib.hid m2
  clear m1 m2
  go_enter Try.func26, Try.ntmps26
  go_wp2_with (fail)
  refine (grid4 _).mono ?_
  rintro e w1 ⟨rfl, bb⟩
  have BB := Lib.hid bb
  generalize cellsI (gcs 4 4) = C at *
  clear bb
  go_wp2_with (fail)
  have fin : ∀ w3 : World, Below (w1.heap.size + 1) (w1.alloc (.cells #[.int .i64 (a), .int .i64 (-1)] 44)) w3 → Below w.heap.size w w3 := fun w3 b3 => (BB.out.alloc BB.out.size _).trans (b3.mono (by have := BB.out.size; omega))
  have FIN := Lib.hid fin
  clear fin
  go_region_held3 (fun w' => w'.cell? ⟨w1.heap.size, 0, none⟩ = some (.int .i64 (a)) ∧ w'.cell? ⟨w1.heap.size, 1, none⟩ = some (.int .i64 (-1)))
    (first
      | go_keep
      | (go_split_ands
         exact ⟨c0, c1⟩))
    (first
      | (go_at_call 28; refine (find4 m m0 _ _ (by omega) (by omega) (by omega) (by omega) M1.out M2.out _).mono ?_; rintro e w3 ⟨rfl, b3⟩; have c0 : w3.cell? ⟨w1.heap.size, 0, none⟩ = some (.int .i64 (a)) := (by rw [b3.cell (p := ⟨w1.heap.size, 0, none⟩) (by simp)]; simp); have c1 : w3.cell? ⟨w1.heap.size, 1, none⟩ = some (.int .i64 (-1)) := (by rw [b3.cell (p := ⟨w1.heap.size, 1, none⟩) (by simp)]; simp); have HB3 := Lib.hid (show Below (w1.heap.size + 1) (w1.alloc (.cells #[.int .i64 (a), .int .i64 (-1)] 44)) w3 from ((Below.refl _ _).drew.trans (b3.mono (by simp)))); clear b3))
  go_wp2
  go_ret3
  exact ⟨rfl, FIN.out _ HB3.out⟩

theorem stepY4 (k : Nat) (hk : k < 4) (w : World) :
    Calls Try.prog 26 #[.int .i64 4, .int .i64 2, .int .i64 (k : Int), .int .i64 0, .int .i64 (-1)] w fun e w' => e = .returned (.tuple #[.int .i64 (mvY 4 2 k : Int), .bool (decide (1 ≤ gy 4 k)), .int .i64 0]) ∧ Below w.heap.size w w' := by
  obtain ⟨m0, m1, m2⟩ := mvY4 k hk
  obtain ⟨a0, a1, b0, b1⟩ := g4_bd k hk
  have hi := idx4 k hk
  by_cases hc : 1 ≤ gy 4 k
  · rw [decide_eq_true hc]
    exact stepY4p k hk (gx 4 k) (gy 4 k) a0 (by omega) b0 (by omega) hc _ m0 m1 (by rw [← m2]; rfl) hi w
  · rw [decide_eq_false hc]
    have hz : gy 4 k = 0 := by omega
    rw [hz] at hi m2
    exact stepY4n k hk (gx 4 k) a0 (by omega) _ m0 m1 m2 hi w
end Go.Proofs.Ytmackljhomameaa
