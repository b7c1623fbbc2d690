/- Contracts of the reference's Block, Left, Above, ChLeft and ChAbove, and of alive. -/
import Derived.Test.YtmackljhomameaaMove
namespace Go.Proofs.Ytmackljhomameaa
open Go.RowKit

theorem ax_of (j : Nat) (h : j < 16) : aX j = gx 16 j ∧ aY j = gy 16 j := by
  simp only [aX, aY]
  rw [if_pos (by omega), if_pos (by omega), Int.toNat_natCast]
  exact ⟨rfl, rfl⟩

theorem mvV_of (n : Nat) (g : Nat → Nat) (m : Nat) (h : 0 ≤ (m : Int) ∧ (m : Int) < (n : Nat)) : mvV n g m = (g m : Nat) := by unfold mvV; rw [if_pos h]; rfl
theorem mvB_of (n : Nat) (g : Nat → Int) (m : Nat) (h : 0 ≤ (m : Int) ∧ (m : Int) < (n : Nat)) : mvB n g m = decide (1 ≤ g m) := by unfold mvB; rw [if_pos h]; rfl
theorem mvE_of (n : Nat) (m : Nat) (h : 0 ≤ (m : Int) ∧ (m : Int) < (n : Nat)) : mvE n m = 0 := by unfold mvE; rw [if_pos h]

theorem dlt (x : Int) : decide (0 < x) = decide (1 ≤ x) := by congr 1

set_option maxHeartbeats 2000000 in
/-- The loop of Block: m is the first block at the place, or 16. -/
theorem rblock_loop (x y : Int) (m : Nat) (V E : Int) (hm : m ≤ 16) (hno : ∀ j, j < m → (aX j == x && aY j == y) = false) (hyes : m < 16 → (aX m = x ∧ aY m = y) ∧ V = m ∧ E = 0) (hend : ¬ m < 16 → V = 0 ∧ E = 3) (w : World) :
    Calls Try.prog 21 #[.int .i64 x, .int .i64 y] w fun e w' => e = .returned (.tuple #[.int .i64 V, .int .i64 E]) ∧ w = w' := by
  have HN := Lib.hid hno
  have HY := Lib.hid hyes
  have HZ := Lib.hid hend
  clear hno hyes hend
  go_enter Try.func21, Try.ntmps21
  go_wp2_with (fail)
  go_loopw [6] (fun i wr => ∃ j : Nat, j ≤ m ∧ i = .int .i64 j ∧ wr = w) (fun i _ => 16 - (intOf i).toNat)
  case atStart => exact ⟨0, Nat.zero_le _, rfl, rfl⟩
  case round =>
    obtain ⟨j, hj, rfl, rfl⟩ := hrel
    by_cases hjm : j < m
    · have h16 : (j : Int) < 16 := by omega
      have hq := HN.out j hjm
      generalize he : aE (j : Int) = F at *
      have HR := Lib.hid (rat_any (j : Int) wr)
      rw [he] at HR
      clear he
      generalize aX (j : Int) = a at *
      generalize aY (j : Int) = b at *
      by_cases hax : a = x
      · subst hax
        have hby : (b == y) = false := by simpa using hq
        clear hq
        go_wp2_with (go_at_call 20; refine HR.out.mono ?_; rintro e w' ⟨rfl, rfl⟩)
        go_roundw
        case rel => exact ⟨j + 1, by omega, by go_num, trivial⟩
        case measure => simp [intOf]; omega
      · clear hq
        go_wp2_with (go_at_call 20; refine HR.out.mono ?_; rintro e w' ⟨rfl, rfl⟩)
        go_roundw
        case rel => exact ⟨j + 1, by omega, by go_num, trivial⟩
        case measure => simp [intOf]; omega
    · obtain rfl : j = m := by omega
      by_cases h16n : j < 16
      · have h16 : (j : Int) < 16 := by omega
        obtain ⟨⟨e1, e2⟩, rfl, rfl⟩ := HY.out h16n
        have HR := Lib.hid (rat_any (j : Int) wr)
        rw [e1, e2] at HR
        clear e1 e2
        generalize aE (j : Int) = F at *
        go_wp2_with (go_at_call 20; refine HR.out.mono ?_; rintro e w' ⟨rfl, rfl⟩)
        go_ret2
        exact ⟨rfl, rfl⟩
      · have h16 : ¬ (j : Int) < 16 := by omega
        obtain ⟨rfl, rfl⟩ := HZ.out h16n
        go_wp2_with (fail)
        go_ret2
        exact ⟨rfl, rfl⟩

theorem at2_first : ∀ x : Nat, x < 4 → ∀ y : Nat, y < 4 → ∀ j, j < at2 16 x y → ¬ (gx 16 j = x ∧ gy 16 j = y) := by decide
theorem g16_in (j : Nat) (h : j < 16) : 0 ≤ gx 16 j ∧ gx 16 j ≤ 3 ∧ 0 ≤ gy 16 j ∧ gy 16 j ≤ 3 := g16_bd j h

theorem rblock_any (x y : Int) (w : World) : Calls Try.prog 21 #[.int .i64 x, .int .i64 y] w fun e w' => e = .returned (.tuple #[.int .i64 (bV x y), .int .i64 (bE x y)]) ∧ w = w' := by
  by_cases h : 0 ≤ x ∧ x ≤ 3 ∧ 0 ≤ y ∧ y ≤ 3
  · simp only [bV, bE, if_pos h]
    obtain ⟨a, rfl⟩ : ∃ a : Nat, x = a := ⟨x.toNat, by omega⟩
    obtain ⟨b, rfl⟩ : ∃ b : Nat, y = b := ⟨y.toNat, by omega⟩
    obtain ⟨t0, t1, t2⟩ := at2_ok a (by omega) b (by omega)
    have t3 := at2_first a (by omega) b (by omega)
    generalize at2 16 a b = m at *
    have := rblock_loop a b m m 0 (by omega) (fun j hj => by
      obtain ⟨u, v⟩ := ax_of j (by omega)
      have := t3 j hj
      rw [u, v]
      simpa using this) (fun hm => by
      obtain ⟨u, v⟩ := ax_of m hm
      exact ⟨⟨u.trans t1, v.trans t2⟩, rfl, rfl⟩) (fun h => absurd t0 h) w
    exact this
  · simp only [bV, bE, if_neg h]
    exact rblock_loop x y 16 0 3 (by omega) (fun j hj => by
      obtain ⟨u, v⟩ := ax_of j (by omega)
      have := g16_in j (by omega)
      rw [u, v]
      simp
      omega) (fun hm => by omega) (fun _ => ⟨rfl, rfl⟩) w

theorem lX : ∀ k : Nat, k < 16 → bV ((gx 16 k + 3) % 4) (gy 16 k) = (mvX 16 4 k : Nat) := by decide
theorem lY : ∀ k : Nat, k < 16 → bV (gx 16 k) ((gy 16 k + 3) % 4) = (mvY 16 4 k : Nat) := by decide

theorem rleft_any (k : Int) (w : World) : Calls Try.prog 22 #[.int .i64 k] w fun e w' => e = .returned (.tuple #[.int .i64 (mvV 16 (mvX 16 4) k), .bool (mvB 16 (gx 16) k), .int .i64 (mvE 16 k)]) ∧ w = w' := by
  have HA := Lib.hid (rat_any k)
  by_cases h : 0 ≤ k ∧ k < (16 : Nat)
  · obtain ⟨m, rfl⟩ : ∃ m : Nat, k = m := ⟨k.toNat, by omega⟩
    have h' : 0 ≤ (m : Int) ∧ (m : Int) ≤ 15 := by omega
    simp only [aX, aY, aE, if_pos h', Int.toNat_natCast] at HA
    rw [mvV_of _ _ _ h, mvB_of _ _ _ h, mvE_of _ _ h]
    obtain ⟨b1, b2, b3, b4⟩ := g16_in m (by omega)
    rw [← lX m (by omega)]
    have HB := Lib.hid (rblock_any ((gx 16 m + 3) % 4) (gy 16 m))
    generalize bV ((gx 16 m + 3) % 4) (gy 16 m) = V at *
    generalize bE ((gx 16 m + 3) % 4) (gy 16 m) = E at *
    generalize gx 16 m = x at *
    generalize gy 16 m = y at *
    clear h h'
    go_enter Try.func22, Try.ntmps22
    go_wp2_with (first
      | (go_at_call 20; refine (HA.out _).mono ?_; rintro e w' ⟨rfl, rfl⟩)
      | (go_at_call 21; refine (HB.out _).mono ?_; rintro e w' ⟨rfl, rfl⟩))
    go_ret3
    exact ⟨by rw [dlt]; rfl, rfl⟩
  · simp only [mvV, mvB, mvE, if_neg h]
    have h' : ¬ (0 ≤ k ∧ k ≤ 15) := by omega
    simp only [aX, aY, aE, if_neg h'] at HA
    clear h h'
    go_enter Try.func22, Try.ntmps22
    go_wp2_with (go_at_call 20; refine (HA.out _).mono ?_; rintro e w' ⟨rfl, rfl⟩)
    go_ret3
    exact ⟨rfl, rfl⟩

theorem rabove_any (k : Int) (w : World) : Calls Try.prog 23 #[.int .i64 k] w fun e w' => e = .returned (.tuple #[.int .i64 (mvV 16 (mvY 16 4) k), .bool (mvB 16 (gy 16) k), .int .i64 (mvE 16 k)]) ∧ w = w' := by
  have HA := Lib.hid (rat_any k)
  by_cases h : 0 ≤ k ∧ k < (16 : Nat)
  · obtain ⟨m, rfl⟩ : ∃ m : Nat, k = m := ⟨k.toNat, by omega⟩
    have h' : 0 ≤ (m : Int) ∧ (m : Int) ≤ 15 := by omega
    simp only [aX, aY, aE, if_pos h', Int.toNat_natCast] at HA
    rw [mvV_of _ _ _ h, mvB_of _ _ _ h, mvE_of _ _ h]
    obtain ⟨b1, b2, b3, b4⟩ := g16_in m (by omega)
    rw [← lY m (by omega)]
    have HB := Lib.hid (rblock_any (gx 16 m) ((gy 16 m + 3) % 4))
    generalize bV (gx 16 m) ((gy 16 m + 3) % 4) = V at *
    generalize bE (gx 16 m) ((gy 16 m + 3) % 4) = E at *
    generalize gx 16 m = x at *
    generalize gy 16 m = y at *
    clear h h'
    go_enter Try.func23, Try.ntmps23
    go_wp2_with (first
      | (go_at_call 20; refine (HA.out _).mono ?_; rintro e w' ⟨rfl, rfl⟩)
      | (go_at_call 21; refine (HB.out _).mono ?_; rintro e w' ⟨rfl, rfl⟩))
    go_ret3
    exact ⟨by rw [dlt]; rfl, rfl⟩
  · simp only [mvV, mvB, mvE, if_neg h]
    have h' : ¬ (0 ≤ k ∧ k ≤ 15) := by omega
    simp only [aX, aY, aE, if_neg h'] at HA
    clear h h'
    go_enter Try.func23, Try.ntmps23
    go_wp2_with (go_at_call 20; refine (HA.out _).mono ?_; rintro e w' ⟨rfl, rfl⟩)
    go_ret3
    exact ⟨rfl, rfl⟩

/-- One closed walk of ChLeft or ChAbove of the reference. -/
theorem rchleft_any (k : Int) (w : World) : Calls Try.prog 24 #[.int .i64 k] w fun e w' => e = .returned (.tuple #[.int .i64 (mvV 4 (mvX 4 2) k), .bool (mvB 4 (gx 4) k), .int .i64 (mvE 4 k)]) ∧ w = w' := by
  have hk : k = 0 ∨ k = 1 ∨ k = 2 ∨ k = 3 ∨ k < 0 ∨ (¬ k < 0 ∧ 3 < k) := by omega
  rcases hk with rfl | rfl | rfl | rfl | h | ⟨h1, h2⟩
  · go_enter Try.func24, Try.ntmps24; go_wp2; go_ret3; exact ⟨rfl, rfl⟩
  · go_enter Try.func24, Try.ntmps24; go_wp2; go_ret3; exact ⟨rfl, rfl⟩
  · go_enter Try.func24, Try.ntmps24; go_wp2; go_ret3; exact ⟨rfl, rfl⟩
  · go_enter Try.func24, Try.ntmps24; go_wp2; go_ret3; exact ⟨rfl, rfl⟩
  · have hn : ¬ (0 ≤ k ∧ k < (4 : Nat)) := by omega
    simp only [mvV, mvB, mvE, if_neg hn]
    clear hn
    go_enter Try.func24, Try.ntmps24; go_wp2; go_ret3; exact ⟨rfl, rfl⟩
  · have hn : ¬ (0 ≤ k ∧ k < (4 : Nat)) := by omega
    simp only [mvV, mvB, mvE, if_neg hn]
    clear hn
    go_enter Try.func24, Try.ntmps24; go_wp2; go_ret3; exact ⟨rfl, rfl⟩

theorem rchabove_any (k : Int) (w : World) : Calls Try.prog 25 #[.int .i64 k] w fun e w' => e = .returned (.tuple #[.int .i64 (mvV 4 (mvY 4 2) k), .bool (mvB 4 (gy 4) k), .int .i64 (mvE 4 k)]) ∧ w = w' := by
  have hk : k = 0 ∨ k = 1 ∨ k = 2 ∨ k = 3 ∨ k < 0 ∨ (¬ k < 0 ∧ 3 < k) := by omega
  rcases hk with rfl | rfl | rfl | rfl | h | ⟨h1, h2⟩
  · go_enter Try.func25, Try.ntmps25; go_wp2; go_ret3; exact ⟨rfl, rfl⟩
  · go_enter Try.func25, Try.ntmps25; go_wp2; go_ret3; exact ⟨rfl, rfl⟩
  · go_enter Try.func25, Try.ntmps25; go_wp2; go_ret3; exact ⟨rfl, rfl⟩
  · go_enter Try.func25, Try.ntmps25; go_wp2; go_ret3; exact ⟨rfl, rfl⟩
  · have hn : ¬ (0 ≤ k ∧ k < (4 : Nat)) := by omega
    simp only [mvV, mvB, mvE, if_neg hn]
    clear hn
    go_enter Try.func25, Try.ntmps25; go_wp2; go_ret3; exact ⟨rfl, rfl⟩
  · have hn : ¬ (0 ≤ k ∧ k < (4 : Nat)) := by omega
    simp only [mvV, mvB, mvE, if_neg hn]
    clear hn
    go_enter Try.func25, Try.ntmps25; go_wp2; go_ret3; exact ⟨rfl, rfl⟩

theorem alive_yes (w : World) : Calls Try.prog 11 #[] w fun e w' => e = .returned (.bool true) ∧ Below w.heap.size w w' := by
  have HA := Lib.hid (show ∀ w, Calls Try.prog 17 #[.int .i64 13] w fun e w' => e = .returned (.tuple #[.int .i64 3, .int .i64 2, .int .i64 0]) ∧ Below w.heap.size w w' from at_any 13)
  have HL := Lib.hid (show ∀ w, Calls Try.prog 13 #[.int .i64 0] w fun e w' => e = .returned (.tuple #[.int .i64 5, .bool false, .int .i64 0]) ∧ Below w.heap.size w w' from left_any 0)
  have HN := Lib.hid (show ∀ w, Calls Try.prog 9 #[.int .i64 5, .int .i64 0, .int .i64 4] w fun e w' => e = .returned (.tuple #[.int .i64 4, .int .i64 1, .int .i64 0]) ∧ w = w' from fun w => near_yes 5 0 4 (by decide) (by decide) (by decide) (by decide) (by decide) (by decide) w 9 (.inl rfl))
  go_enter Try.func11, Try.ntmps11
  go_wp2_with (fail)
  refine (HA.out _).mono ?_
  rintro e w1 ⟨rfl, b1⟩
  have B1 := Lib.hid b1
  clear b1
  go_wp2_with (fail)
  refine (HL.out _).mono ?_
  rintro e w2 ⟨rfl, b2⟩
  have B2 := Lib.hid (B1.out.trans (b2.mono B1.out.size))
  clear b2
  go_wp2_with (go_at_call 9; refine (HN.out _).mono ?_; rintro e w' ⟨rfl, rfl⟩)
  go_ret
  exact ⟨rfl, B2.out⟩

end Go.Proofs.Ytmackljhomameaa
