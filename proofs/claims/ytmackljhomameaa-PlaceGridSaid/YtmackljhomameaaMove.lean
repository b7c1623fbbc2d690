/- Contracts of At, Block, Left, Above, ChLeft, ChAbove and of the reference's. -/
import Derived.Test.YtmackljhomameaaStep
namespace Go.Proofs.Ytmackljhomameaa
open Go.RowKit

def aX (k : Int) : Int := if 0 ≤ k ∧ k ≤ 15 then gx 16 k.toNat else 0
def aY (k : Int) : Int := if 0 ≤ k ∧ k ≤ 15 then gy 16 k.toNat else 0
def aE (k : Int) : Int := if 0 ≤ k ∧ k ≤ 15 then 0 else 3
def bV (x y : Int) : Int := if 0 ≤ x ∧ x ≤ 3 ∧ 0 ≤ y ∧ y ≤ 3 then (at2 16 x y : Nat) else 0
def bE (x y : Int) : Int := if 0 ≤ x ∧ x ≤ 3 ∧ 0 ≤ y ∧ y ≤ 3 then 0 else 3
/-- The block that a step leads to, whether it is in the same macroblock, and the error. -/
def mvV (n : Nat) (m : Nat → Nat) (k : Int) : Int := if 0 ≤ k ∧ k < n then (m k.toNat : Nat) else 0
def mvB (n : Nat) (g : Nat → Int) (k : Int) : Bool := if 0 ≤ k ∧ k < n then decide (1 ≤ g k.toNat) else false
def mvE (n : Nat) (k : Int) : Int := if 0 ≤ k ∧ k < n then 0 else 3

theorem at2_ok : ∀ x : Nat, x < 4 → ∀ y : Nat, y < 4 → at2 16 x y < 16 ∧ gx 16 (at2 16 x y) = x ∧ gy 16 (at2 16 x y) = y := by decide

theorem at_any (k : Int) (w : World) : Calls Try.prog 17 #[.int .i64 k] w fun e w' => e = .returned (.tuple #[.int .i64 (aX k), .int .i64 (aY k), .int .i64 (aE k)]) ∧ Below w.heap.size w w' := by
  by_cases h : 0 ≤ k ∧ k ≤ 15
  · obtain ⟨m, rfl⟩ : ∃ m : Nat, k = m := ⟨k.toNat, by omega⟩
    simp only [aX, aY, aE, if_pos h, Int.toNat_natCast]
    exact at_yes m (by omega) w
  · simp only [aX, aY, aE, if_neg h]
    exact (at_no k (by omega) w).mono fun e w' ⟨he, hw⟩ => ⟨he, hw ▸ Below.refl _ _⟩

theorem gxy16 (k : Nat) : gx 16 k = (k : Int) % 2 + (k : Int) / 4 % 2 * 2 ∧ gy 16 k = (k : Int) / 2 % 2 + (k : Int) / 8 * 2 := by
  simp [gx, gy]

theorem rat_any (k : Int) (w : World) : Calls Try.prog 20 #[.int .i64 k] w fun e w' => e = .returned (.tuple #[.int .i64 (aX k), .int .i64 (aY k), .int .i64 (aE k)]) ∧ w = w' := by
  by_cases h : 0 ≤ k ∧ k ≤ 15
  · obtain ⟨m, rfl⟩ : ∃ m : Nat, k = m := ⟨k.toNat, by omega⟩
    have hm : m < 16 := by omega
    have h1 : (m : Int) % 2 + 2 * ((m : Int) / 4 % 2) = gx 16 m := by rw [(gxy16 m).1]; omega
    have h2 : (m : Int) / 2 % 2 + 2 * ((m : Int) / 8) = gy 16 m := by rw [(gxy16 m).2]; omega
    simp only [aX, aY, aE, if_pos h, Int.toNat_natCast]
    rw [← h1, ← h2]
    obtain ⟨h3, h4⟩ := h
    clear h1 h2
    go_enter Try.func20, Try.ntmps20
    go_wp2
    go_ret3
    exact ⟨rfl, rfl⟩
  · simp only [aX, aY, aE, if_neg h]
    have h' : k < 0 ∨ 15 < k := by omega
    clear h
    rcases h' with h | h
    all_goals
      go_enter Try.func20, Try.ntmps20
      go_wp2
      go_ret3
      exact ⟨rfl, rfl⟩

theorem block_any (x y : Int) (w : World) : Calls Try.prog 18 #[.int .i64 x, .int .i64 y] w fun e w' => e = .returned (.tuple #[.int .i64 (bV x y), .int .i64 (bE x y)]) ∧ Below w.heap.size w w' := by
  by_cases h : 0 ≤ x ∧ x ≤ 3 ∧ 0 ≤ y ∧ y ≤ 3
  · simp only [bV, bE, if_pos h]
    obtain ⟨a, rfl⟩ : ∃ a : Nat, x = a := ⟨x.toNat, by omega⟩
    obtain ⟨b, rfl⟩ : ∃ b : Nat, y = b := ⟨y.toNat, by omega⟩
    obtain ⟨t0, t1, t2⟩ := at2_ok a (by omega) b (by omega)
    obtain ⟨h1, h2, h3, h4⟩ := h
    generalize at2 16 a b = m at *
    have T1 := Lib.hid t1
    have T2 := Lib.hid t2
    clear t1 t2
    go_enter Try.func18, Try.ntmps18
    go_wp2_with (go_at_call 28; refine (find16 m t0 _ _ (by omega) (by omega) (by omega) (by omega) (by have := T1.out; omega) (by have := T2.out; omega) _).mono ?_; rintro e w' ⟨rfl, b1⟩; have B1 := Lib.hid b1; clear b1)
    go_ret2
    exact ⟨rfl, B1.out⟩
  · simp only [bV, bE, if_neg h]
    have h' : x < 0 ∨ (¬ x < 0 ∧ 3 < x) ∨ (¬ x < 0 ∧ ¬ 3 < x ∧ y < 0) ∨ (¬ x < 0 ∧ ¬ 3 < x ∧ ¬ y < 0 ∧ 3 < y) := by omega
    clear h
    rcases h' with h1 | ⟨h1, h2⟩ | ⟨h1, h2, h3⟩ | ⟨h1, h2, h3, h4⟩
    all_goals
      go_enter Try.func18, Try.ntmps18
      go_wp2
      go_ret2
      exact ⟨rfl, Below.refl _ _⟩

theorem step_no (n side dx dy k : Int) (h : k < 0 ∨ n ≤ k) (w : World) :
    Calls Try.prog 26 #[.int .i64 n, .int .i64 side, .int .i64 k, .int .i64 dx, .int .i64 dy] w fun e w' => e = .returned (.tuple #[.int .i64 0, .bool false, .int .i64 3]) ∧ Below w.heap.size w w' := by
  have h' : k < 0 ∨ (¬ k < 0 ∧ n ≤ k) := by omega
  clear h
  rcases h' with h | ⟨h1, h2⟩
  all_goals
    go_enter Try.func26, Try.ntmps26
    go_wp2
    go_ret3
    exact ⟨rfl, Below.refl _ _⟩

theorem left_any (k : Int) (w : World) : Calls Try.prog 13 #[.int .i64 k] w fun e w' => e = .returned (.tuple #[.int .i64 (mvV 16 (mvX 16 4) k), .bool (mvB 16 (gx 16) k), .int .i64 (mvE 16 k)]) ∧ Below w.heap.size w w' := by
  have hs : ∀ w, Calls Try.prog 26 #[.int .i64 16, .int .i64 4, .int .i64 k, .int .i64 (-1), .int .i64 0] w fun e w' => e = .returned (.tuple #[.int .i64 (mvV 16 (mvX 16 4) k), .bool (mvB 16 (gx 16) k), .int .i64 (mvE 16 k)]) ∧ Below w.heap.size w w' := by
    intro w
    by_cases h : 0 ≤ k ∧ k < (16 : Nat)
    · obtain ⟨m, rfl⟩ : ∃ m : Nat, k = m := ⟨k.toNat, by omega⟩
      simp only [mvV, mvB, mvE, if_pos h, Int.toNat_natCast]
      exact stepX16 m (by omega) w
    · simp only [mvV, mvB, mvE, if_neg h]
      exact step_no 16 4 (-1) 0 k (by omega) w
  generalize mvV 16 (mvX 16 4) k = V at *
  generalize mvB 16 (gx 16) k = B at *
  generalize mvE 16 k = E at *
  have HS := Lib.hid hs
  clear hs
  go_enter Try.func13, Try.ntmps13
  go_wp2_with (go_at_call 26; refine (HS.out _).mono ?_; rintro e w' ⟨rfl, b1⟩; have B1 := Lib.hid b1; clear b1)
  go_ret3
  exact ⟨rfl, B1.out⟩

theorem above_any (k : Int) (w : World) : Calls Try.prog 14 #[.int .i64 k] w fun e w' => e = .returned (.tuple #[.int .i64 (mvV 16 (mvY 16 4) k), .bool (mvB 16 (gy 16) k), .int .i64 (mvE 16 k)]) ∧ Below w.heap.size w w' := by
  have hs : ∀ w, Calls Try.prog 26 #[.int .i64 16, .int .i64 4, .int .i64 k, .int .i64 0, .int .i64 (-1)] w fun e w' => e = .returned (.tuple #[.int .i64 (mvV 16 (mvY 16 4) k), .bool (mvB 16 (gy 16) k), .int .i64 (mvE 16 k)]) ∧ Below w.heap.size w w' := by
    intro w
    by_cases h : 0 ≤ k ∧ k < (16 : Nat)
    · obtain ⟨m, rfl⟩ : ∃ m : Nat, k = m := ⟨k.toNat, by omega⟩
      simp only [mvV, mvB, mvE, if_pos h, Int.toNat_natCast]
      exact stepY16 m (by omega) w
    · simp only [mvV, mvB, mvE, if_neg h]
      exact step_no 16 4 0 (-1) k (by omega) w
  generalize mvV 16 (mvY 16 4) k = V at *
  generalize mvB 16 (gy 16) k = B at *
  generalize mvE 16 k = E at *
  have HS := Lib.hid hs
  clear hs
  go_enter Try.func14, Try.ntmps14
  go_wp2_with (go_at_call 26; refine (HS.out _).mono ?_; rintro e w' ⟨rfl, b1⟩; have B1 := Lib.hid b1; clear b1)
  go_ret3
  exact ⟨rfl, B1.out⟩

theorem chleft_any (k : Int) (w : World) : Calls Try.prog 15 #[.int .i64 k] w fun e w' => e = .returned (.tuple #[.int .i64 (mvV 4 (mvX 4 2) k), .bool (mvB 4 (gx 4) k), .int .i64 (mvE 4 k)]) ∧ Below w.heap.size w w' := by
  have hs : ∀ w, Calls Try.prog 26 #[.int .i64 4, .int .i64 2, .int .i64 k, .int .i64 (-1), .int .i64 0] w fun e w' => e = .returned (.tuple #[.int .i64 (mvV 4 (mvX 4 2) k), .bool (mvB 4 (gx 4) k), .int .i64 (mvE 4 k)]) ∧ Below w.heap.size w w' := by
    intro w
    by_cases h : 0 ≤ k ∧ k < (4 : Nat)
    · obtain ⟨m, rfl⟩ : ∃ m : Nat, k = m := ⟨k.toNat, by omega⟩
      simp only [mvV, mvB, mvE, if_pos h, Int.toNat_natCast]
      exact stepX4 m (by omega) w
    · simp only [mvV, mvB, mvE, if_neg h]
      exact step_no 4 2 (-1) 0 k (by omega) w
  generalize mvV 4 (mvX 4 2) k = V at *
  generalize mvB 4 (gx 4) k = B at *
  generalize mvE 4 k = E at *
  have HS := Lib.hid hs
  clear hs
  go_enter Try.func15, Try.ntmps15
  go_wp2_with (go_at_call 26; refine (HS.out _).mono ?_; rintro e w' ⟨rfl, b1⟩; have B1 := Lib.hid b1; clear b1)
  go_ret3
  exact ⟨rfl, B1.out⟩

theorem chabove_any (k : Int) (w : World) : Calls Try.prog 16 #[.int .i64 k] w fun e w' => e = .returned (.tuple #[.int .i64 (mvV 4 (mvY 4 2) k), .bool (mvB 4 (gy 4) k), .int .i64 (mvE 4 k)]) ∧ Below w.heap.size w w' := by
  have hs : ∀ w, Calls Try.prog 26 #[.int .i64 4, .int .i64 2, .int .i64 k, .int .i64 0, .int .i64 (-1)] w fun e w' => e = .returned (.tuple #[.int .i64 (mvV 4 (mvY 4 2) k), .bool (mvB 4 (gy 4) k), .int .i64 (mvE 4 k)]) ∧ Below w.heap.size w w' := by
    intro w
    by_cases h : 0 ≤ k ∧ k < (4 : Nat)
    · obtain ⟨m, rfl⟩ : ∃ m : Nat, k = m := ⟨k.toNat, by omega⟩
      simp only [mvV, mvB, mvE, if_pos h, Int.toNat_natCast]
      exact stepY4 m (by omega) w
    · simp only [mvV, mvB, mvE, if_neg h]
      exact step_no 4 2 0 (-1) k (by omega) w
  generalize mvV 4 (mvY 4 2) k = V at *
  generalize mvB 4 (gy 4) k = B at *
  generalize mvE 4 k = E at *
  have HS := Lib.hid hs
  clear hs
  go_enter Try.func16, Try.ntmps16
  go_wp2_with (go_at_call 26; refine (HS.out _).mono ?_; rintro e w' ⟨rfl, b1⟩; have B1 := Lib.hid b1; clear b1)
  go_ret3
  exact ⟨rfl, B1.out⟩

end Go.Proofs.Ytmackljhomameaa
