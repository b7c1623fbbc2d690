/- The closure of PlaceRounds: as many steps as there are blocks in a row or a column. -/
import Derived.Test.YtmackljhomameaaRef
namespace Go.Proofs.Ytmackljhomameaa
open Go.RowKit

/-- The block after t steps from k, and how many of them leave the macroblock. -/
def it (m : Nat → Nat) (k : Nat) : Nat → Nat
  | 0 => k
  | t + 1 => m (it m k t)
def ct (m : Nat → Nat) (b : Nat → Int) (k : Nat) : Nat → Nat
  | 0 => 0
  | t + 1 => ct m b k t + if decide (1 ≤ b (it m k t)) then 0 else 1

theorem ct_le (m : Nat → Nat) (b : Nat → Int) (k : Nat) : ∀ t, ct m b k t ≤ t
  | 0 => Nat.le_refl _
  | t + 1 => by
    have := ct_le m b k t
    simp only [ct]
    split <;> omega

theorem it_lt {n : Nat} {m : Nat → Nat} (h : ∀ j, j < n → m j < n) {k : Nat} (hk : k < n) : ∀ t, it m k t < n
  | 0 => hk
  | t + 1 => h _ (it_lt h hk t)

theorem rX16 : ∀ k, k < 16 → it (mvX 16 4) k 4 = k ∧ ct (mvX 16 4) (gx 16) k 4 = 1 ∧ mvX 16 4 k ≠ k ∧ mvX 16 4 (mvY 16 4 k) = mvY 16 4 (mvX 16 4 k) := by decide +kernel
theorem rY16 : ∀ k, k < 16 → it (mvY 16 4) k 4 = k ∧ ct (mvY 16 4) (gy 16) k 4 = 1 ∧ mvY 16 4 k ≠ k ∧ mvY 16 4 (mvX 16 4 k) = mvX 16 4 (mvY 16 4 k) := by decide +kernel
theorem rX4 : ∀ k, k < 4 → it (mvX 4 2) k 2 = k ∧ ct (mvX 4 2) (gx 4) k 2 = 1 ∧ mvX 4 2 k ≠ k ∧ mvX 4 2 (mvY 4 2 k) = mvY 4 2 (mvX 4 2 k) := by decide +kernel
theorem rY4 : ∀ k, k < 4 → it (mvY 4 2) k 2 = k ∧ ct (mvY 4 2) (gy 4) k 2 = 1 ∧ mvY 4 2 k ≠ k ∧ mvY 4 2 (mvX 4 2 k) = mvX 4 2 (mvY 4 2 k) := by decide +kernel

/-- A step from a block. -/
theorem mv_in {n : Nat} {m : Nat → Nat} {g : Nat → Int} {F : FuncId} (h : ∀ (k : Int) (w : World), Calls Try.prog F #[.int .i64 k] w fun e w' => e = .returned (.tuple #[.int .i64 (mvV n m k), .bool (mvB n g k), .int .i64 (mvE n k)]) ∧ Below w.heap.size w w') (j : Nat) (hj : j < n) (w : World) :
    Calls Try.prog F #[.int .i64 (j : Int)] w fun e w' => e = .returned (.tuple #[.int .i64 (m j : Nat), .bool (decide (1 ≤ g j)), .int .i64 0]) ∧ Below w.heap.size w w' := by
  have hh : 0 ≤ (j : Int) ∧ (j : Int) < (n : Nat) := by omega
  have := h j w
  rwa [mvV_of _ _ _ hh, mvB_of _ _ _ hh, mvE_of _ _ hh] at this

set_option maxRecDepth 100000 in
set_option maxHeartbeats 4000000 in
theorem round_left (k : Nat) (hk : k < 16) (w : World) :
    Calls Try.prog 12 #[.func (.func 13) #[] #[], .func (.func 14) #[] #[], .int .i64 (k : Int), .int .i64 4] w fun e w' => e = .returned (.bool true) ∧ Below w.heap.size w w' := by
  have HC1 := Lib.hid (fun j hj => mv_in (n := 16) (m := mvX 16 4) (g := gx 16) left_any j hj)
  have HC2 := Lib.hid (fun j hj => mv_in (n := 16) (m := mvY 16 4) (g := gy 16) above_any j hj)
  have HT := Lib.hid rX16
  have HT1 := Lib.hid (fun j hj => (mvX16 j hj).1)
  have HT2 := Lib.hid (fun j hj => (mvY16 j hj).1)
  obtain ⟨he1, he2, _, _⟩ := rX16 k hk
  have HE := Lib.hid (And.intro he1 he2)
  have hs : ∀ t, it (mvX 16 4) k t < 16 ∧ ct (mvX 16 4) (gx 16) k t ≤ t ∧ it (mvX 16 4) k (t + 1) = mvX 16 4 (it (mvX 16 4) k t) ∧ ct (mvX 16 4) (gx 16) k (t + 1) = ct (mvX 16 4) (gx 16) k t + (if decide (1 ≤ gx 16 (it (mvX 16 4) k t)) then 0 else 1) := fun t => ⟨it_lt (fun j hj => HT1.out j hj) hk t, ct_le _ _ _ t, rfl, rfl⟩
  have h00 : it (mvX 16 4) k 0 = k ∧ ct (mvX 16 4) (gx 16) k 0 = 0 := ⟨rfl, rfl⟩
  have HS := Lib.hid hs
  have H0 := Lib.hid h00
  clear he1 he2 hs h00
  generalize mvX 16 4 = m1 at *
  generalize mvY 16 4 = m2 at *
  generalize gx 16 = g1 at *
  generalize gy 16 = g2 at *
  go_enter Try.func12, Try.ntmps12
  go_wp2_with (fail)
  go_loopw [9, 10, 11] (fun a l i wr => ∃ t : Nat, t ≤ 4 ∧ i = .int .i64 t ∧ a = .int .i64 (it m1 k t : Nat) ∧ l = .int .i64 (ct m1 g1 k t : Nat) ∧ Below w.heap.size w wr) (fun _ _ i _ => 4 - (intOf i).toNat)
  case atStart => exact ⟨0, Nat.zero_le _, rfl, by rw [H0.out.1], by rw [H0.out.2]; rfl, Below.refl _ _⟩
  case round =>
    obtain ⟨t, ht, rfl, rfl, rfl, hB⟩ := hrel
    have B0 := Lib.hid hB
    clear hB
    by_cases hlt : t < 4
    · have hlt' : (t : Int) < 4 := by omega
      obtain ⟨q1, q2, q3, q4⟩ := HS.out t
      have Q3 := Lib.hid q3
      have Q4 := Lib.hid q4
      clear q3 q4
      generalize it m1 k t = j at *
      generalize ct m1 g1 k t = c at *
      have HA := Lib.hid (HC1.out j q1)
      have HB := Lib.hid (HC2.out (m1 j) (HT1.out j q1))
      have HC := Lib.hid (HC2.out j q1)
      have HD := Lib.hid (HC1.out (m2 j) (HT2.out j q1))
      obtain ⟨_, _, hne, hcm⟩ := HT.out j q1
      rw [hcm] at HD
      clear hcm
      have hne' : ((m1 j : Nat) : Int) ≠ (j : Int) := by omega
      clear hne
      generalize decide (1 ≤ g1 j) = b1 at *
      generalize decide (1 ≤ g1 (m2 j)) = b2 at *
      generalize decide (1 ≤ g2 (m1 j)) = b3 at *
      generalize decide (1 ≤ g2 j) = b4 at *
      generalize m2 (m1 j) = r at *
      generalize m2 j = q at *
      generalize hp : m1 j = p at *
      rw [← hp] at Q3
      have HP := Lib.hid hp
      clear hp
      have hc4 : (c : Int) ≤ 4 := by omega
      cases b1
      all_goals
        go_wp2_with (first
          | (go_at_call 13; have hx := B3; clear hx; refine (HD.out _).mono ?_; rintro e w4 ⟨rfl, b1⟩; have B4 := Lib.hid (B3.out.trans (b1.mono B3.out.size)); clear b1)
          | (go_at_call 13; refine (HA.out _).mono ?_; rintro e w1 ⟨rfl, b1⟩; have B1 := Lib.hid (B0.out.trans (b1.mono B0.out.size)); clear b1)
          | (go_at_call 14; have hx := B2; clear hx; refine (HC.out _).mono ?_; rintro e w3 ⟨rfl, b1⟩; have B3 := Lib.hid (B2.out.trans (b1.mono B2.out.size)); clear b1)
          | (go_at_call 14; refine (HB.out _).mono ?_; rintro e w2 ⟨rfl, b1⟩; have B2 := Lib.hid (B1.out.trans (b1.mono B1.out.size)); clear b1))
        go_roundw
        case rel => exact ⟨t + 1, by omega, by go_num, by rw [Q3.out, HP.out], by rw [Q4.out]; simp, B4.out⟩
        case measure => simp [intOf]; omega
    · obtain rfl : t = 4 := by omega
      rw [HE.out.1, HE.out.2]
      go_wp2_with (fail)
      go_ret
      exact ⟨rfl, B0.out⟩

set_option maxRecDepth 100000 in
set_option maxHeartbeats 4000000 in
theorem round_above (k : Nat) (hk : k < 16) (w : World) :
    Calls Try.prog 12 #[.func (.func 14) #[] #[], .func (.func 13) #[] #[], .int .i64 (k : Int), .int .i64 4] w fun e w' => e = .returned (.bool true) ∧ Below w.heap.size w w' := by
  have HC1 := Lib.hid (fun j hj => mv_in (n := 16) (m := mvY 16 4) (g := gy 16) above_any j hj)
  have HC2 := Lib.hid (fun j hj => mv_in (n := 16) (m := mvX 16 4) (g := gx 16) left_any j hj)
  have HT := Lib.hid rY16
  have HT1 := Lib.hid (fun j hj => (mvY16 j hj).1)
  have HT2 := Lib.hid (fun j hj => (mvX16 j hj).1)
  obtain ⟨he1, he2, _, _⟩ := rY16 k hk
  have HE := Lib.hid (And.intro he1 he2)
  have hs : ∀ t, it (mvY 16 4) k t < 16 ∧ ct (mvY 16 4) (gy 16) k t ≤ t ∧ it (mvY 16 4) k (t + 1) = mvY 16 4 (it (mvY 16 4) k t) ∧ ct (mvY 16 4) (gy 16) k (t + 1) = ct (mvY 16 4) (gy 16) k t + (if decide (1 ≤ gy 16 (it (mvY 16 4) k t)) then 0 else 1) := fun t => ⟨it_lt (fun j hj => HT1.out j hj) hk t, ct_le _ _ _ t, rfl, rfl⟩
  have h00 : it (mvY 16 4) k 0 = k ∧ ct (mvY 16 4) (gy 16) k 0 = 0 := ⟨rfl, rfl⟩
  have HS := Lib.hid hs
  have H0 := Lib.hid h00
  clear he1 he2 hs h00
  generalize mvY 16 4 = m1 at *
  generalize mvX 16 4 = m2 at *
  generalize gy 16 = g1 at *
  generalize gx 16 = g2 at *
  go_enter Try.func12, Try.ntmps12
  go_wp2_with (fail)
  go_loopw [9, 10, 11] (fun a l i wr => ∃ t : Nat, t ≤ 4 ∧ i = .int .i64 t ∧ a = .int .i64 (it m1 k t : Nat) ∧ l = .int .i64 (ct m1 g1 k t : Nat) ∧ Below w.heap.size w wr) (fun _ _ i _ => 4 - (intOf i).toNat)
  case atStart => exact ⟨0, Nat.zero_le _, rfl, by rw [H0.out.1], by rw [H0.out.2]; rfl, Below.refl _ _⟩
  case round =>
    obtain ⟨t, ht, rfl, rfl, rfl, hB⟩ := hrel
    have B0 := Lib.hid hB
    clear hB
    by_cases hlt : t < 4
    · have hlt' : (t : Int) < 4 := by omega
      obtain ⟨q1, q2, q3, q4⟩ := HS.out t
      have Q3 := Lib.hid q3
      have Q4 := Lib.hid q4
      clear q3 q4
      generalize it m1 k t = j at *
      generalize ct m1 g1 k t = c at *
      have HA := Lib.hid (HC1.out j q1)
      have HB := Lib.hid (HC2.out (m1 j) (HT1.out j q1))
      have HC := Lib.hid (HC2.out j q1)
      have HD := Lib.hid (HC1.out (m2 j) (HT2.out j q1))
      obtain ⟨_, _, hne, hcm⟩ := HT.out j q1
      rw [hcm] at HD
      clear hcm
      have hne' : ((m1 j : Nat) : Int) ≠ (j : Int) := by omega
      clear hne
      generalize decide (1 ≤ g1 j) = b1 at *
      generalize decide (1 ≤ g1 (m2 j)) = b2 at *
      generalize decide (1 ≤ g2 (m1 j)) = b3 at *
      generalize decide (1 ≤ g2 j) = b4 at *
      generalize m2 (m1 j) = r at *
      generalize m2 j = q at *
      generalize hp : m1 j = p at *
      rw [← hp] at Q3
      have HP := Lib.hid hp
      clear hp
      have hc4 : (c : Int) ≤ 4 := by omega
      cases b1
      all_goals
        go_wp2_with (first
          | (go_at_call 14; have hx := B3; clear hx; refine (HD.out _).mono ?_; rintro e w4 ⟨rfl, b1⟩; have B4 := Lib.hid (B3.out.trans (b1.mono B3.out.size)); clear b1)
          | (go_at_call 14; refine (HA.out _).mono ?_; rintro e w1 ⟨rfl, b1⟩; have B1 := Lib.hid (B0.out.trans (b1.mono B0.out.size)); clear b1)
          | (go_at_call 13; have hx := B2; clear hx; refine (HC.out _).mono ?_; rintro e w3 ⟨rfl, b1⟩; have B3 := Lib.hid (B2.out.trans (b1.mono B2.out.size)); clear b1)
          | (go_at_call 13; refine (HB.out _).mono ?_; rintro e w2 ⟨rfl, b1⟩; have B2 := Lib.hid (B1.out.trans (b1.mono B1.out.size)); clear b1))
        go_roundw
        case rel => exact ⟨t + 1, by omega, by go_num, by rw [Q3.out, HP.out], by rw [Q4.out]; simp, B4.out⟩
        case measure => simp [intOf]; omega
    · obtain rfl : t = 4 := by omega
      rw [HE.out.1, HE.out.2]
      go_wp2_with (fail)
      go_ret
      exact ⟨rfl, B0.out⟩

set_option maxRecDepth 100000 in
set_option maxHeartbeats 4000000 in
theorem round_chleft (k : Nat) (hk : k < 4) (w : World) :
    Calls Try.prog 12 #[.func (.func 15) #[] #[], .func (.func 16) #[] #[], .int .i64 (k : Int), .int .i64 2] w fun e w' => e = .returned (.bool true) ∧ Below w.heap.size w w' := by
  have HC1 := Lib.hid (fun j hj => mv_in (n := 4) (m := mvX 4 2) (g := gx 4) chleft_any j hj)
  have HC2 := Lib.hid (fun j hj => mv_in (n := 4) (m := mvY 4 2) (g := gy 4) chabove_any j hj)
  have HT := Lib.hid rX4
  have HT1 := Lib.hid (fun j hj => (mvX4 j hj).1)
  have HT2 := Lib.hid (fun j hj => (mvY4 j hj).1)
  obtain ⟨he1, he2, _, _⟩ := rX4 k hk
  have HE := Lib.hid (And.intro he1 he2)
  have hs : ∀ t, it (mvX 4 2) k t < 4 ∧ ct (mvX 4 2) (gx 4) k t ≤ t ∧ it (mvX 4 2) k (t + 1) = mvX 4 2 (it (mvX 4 2) k t) ∧ ct (mvX 4 2) (gx 4) k (t + 1) = ct (mvX 4 2) (gx 4) k t + (if decide (1 ≤ gx 4 (it (mvX 4 2) k t)) then 0 else 1) := fun t => ⟨it_lt (fun j hj => HT1.out j hj) hk t, ct_le _ _ _ t, rfl, rfl⟩
  have h00 : it (mvX 4 2) k 0 = k ∧ ct (mvX 4 2) (gx 4) k 0 = 0 := ⟨rfl, rfl⟩
  have HS := Lib.hid hs
  have H0 := Lib.hid h00
  clear he1 he2 hs h00
  generalize mvX 4 2 = m1 at *
  generalize mvY 4 2 = m2 at *
  generalize gx 4 = g1 at *
  generalize gy 4 = g2 at *
  go_enter Try.func12, Try.ntmps12
  go_wp2_with (fail)
  go_loopw [9, 10, 11] (fun a l i wr => ∃ t : Nat, t ≤ 2 ∧ i = .int .i64 t ∧ a = .int .i64 (it m1 k t : Nat) ∧ l = .int .i64 (ct m1 g1 k t : Nat) ∧ Below w.heap.size w wr) (fun _ _ i _ => 2 - (intOf i).toNat)
  case atStart => exact ⟨0, Nat.zero_le _, rfl, by rw [H0.out.1], by rw [H0.out.2]; rfl, Below.refl _ _⟩
  case round =>
    obtain ⟨t, ht, rfl, rfl, rfl, hB⟩ := hrel
    have B0 := Lib.hid hB
    clear hB
    by_cases hlt : t < 2
    · have hlt' : (t : Int) < 2 := by omega
      obtain ⟨q1, q2, q3, q4⟩ := HS.out t
      have Q3 := Lib.hid q3
      have Q4 := Lib.hid q4
      clear q3 q4
      generalize it m1 k t = j at *
      generalize ct m1 g1 k t = c at *
      have HA := Lib.hid (HC1.out j q1)
      have HB := Lib.hid (HC2.out (m1 j) (HT1.out j q1))
      have HC := Lib.hid (HC2.out j q1)
      have HD := Lib.hid (HC1.out (m2 j) (HT2.out j q1))
      obtain ⟨_, _, hne, hcm⟩ := HT.out j q1
      rw [hcm] at HD
      clear hcm
      have hne' : ((m1 j : Nat) : Int) ≠ (j : Int) := by omega
      clear hne
      generalize decide (1 ≤ g1 j) = b1 at *
      generalize decide (1 ≤ g1 (m2 j)) = b2 at *
      generalize decide (1 ≤ g2 (m1 j)) = b3 at *
      generalize decide (1 ≤ g2 j) = b4 at *
      generalize m2 (m1 j) = r at *
      generalize m2 j = q at *
      generalize hp : m1 j = p at *
      rw [← hp] at Q3
      have HP := Lib.hid hp
      clear hp
      have hc4 : (c : Int) ≤ 2 := by omega
      cases b1
      all_goals
        go_wp2_with (first
          | (go_at_call 15; have hx := B3; clear hx; refine (HD.out _).mono ?_; rintro e w4 ⟨rfl, b1⟩; have B4 := Lib.hid (B3.out.trans (b1.mono B3.out.size)); clear b1)
          | (go_at_call 15; refine (HA.out _).mono ?_; rintro e w1 ⟨rfl, b1⟩; have B1 := Lib.hid (B0.out.trans (b1.mono B0.out.size)); clear b1)
          | (go_at_call 16; have hx := B2; clear hx; refine (HC.out _).mono ?_; rintro e w3 ⟨rfl, b1⟩; have B3 := Lib.hid (B2.out.trans (b1.mono B2.out.size)); clear b1)
          | (go_at_call 16; refine (HB.out _).mono ?_; rintro e w2 ⟨rfl, b1⟩; have B2 := Lib.hid (B1.out.trans (b1.mono B1.out.size)); clear b1))
        go_roundw
        case rel => exact ⟨t + 1, by omega, by go_num, by rw [Q3.out, HP.out], by rw [Q4.out]; simp, B4.out⟩
        case measure => simp [intOf]; omega
    · obtain rfl : t = 2 := by omega
      rw [HE.out.1, HE.out.2]
      go_wp2_with (fail)
      go_ret
      exact ⟨rfl, B0.out⟩

set_option maxRecDepth 100000 in
set_option maxHeartbeats 4000000 in
theorem round_chabove (k : Nat) (hk : k < 4) (w : World) :
    Calls Try.prog 12 #[.func (.func 16) #[] #[], .func (.func 15) #[] #[], .int .i64 (k : Int), .int .i64 2] w fun e w' => e = .returned (.bool true) ∧ Below w.heap.size w w' := by
  have HC1 := Lib.hid (fun j hj => mv_in (n := 4) (m := mvY 4 2) (g := gy 4) chabove_any j hj)
  have HC2 := Lib.hid (fun j hj => mv_in (n := 4) (m := mvX 4 2) (g := gx 4) chleft_any j hj)
  have HT := Lib.hid rY4
  have HT1 := Lib.hid (fun j hj => (mvY4 j hj).1)
  have HT2 := Lib.hid (fun j hj => (mvX4 j hj).1)
  obtain ⟨he1, he2, _, _⟩ := rY4 k hk
  have HE := Lib.hid (And.intro he1 he2)
  have hs : ∀ t, it (mvY 4 2) k t < 4 ∧ ct (mvY 4 2) (gy 4) k t ≤ t ∧ it (mvY 4 2) k (t + 1) = mvY 4 2 (it (mvY 4 2) k t) ∧ ct (mvY 4 2) (gy 4) k (t + 1) = ct (mvY 4 2) (gy 4) k t + (if decide (1 ≤ gy 4 (it (mvY 4 2) k t)) then 0 else 1) := fun t => ⟨it_lt (fun j hj => HT1.out j hj) hk t, ct_le _ _ _ t, rfl, rfl⟩
  have h00 : it (mvY 4 2) k 0 = k ∧ ct (mvY 4 2) (gy 4) k 0 = 0 := ⟨rfl, rfl⟩
  have HS := Lib.hid hs
  have H0 := Lib.hid h00
  clear he1 he2 hs h00
  generalize mvY 4 2 = m1 at *
  generalize mvX 4 2 = m2 at *
  generalize gy 4 = g1 at *
  generalize gx 4 = g2 at *
  go_enter Try.func12, Try.ntmps12
  go_wp2_with (fail)
  go_loopw [9, 10, 11] (fun a l i wr => ∃ t : Nat, t ≤ 2 ∧ i = .int .i64 t ∧ a = .int .i64 (it m1 k t : Nat) ∧ l = .int .i64 (ct m1 g1 k t : Nat) ∧ Below w.heap.size w wr) (fun _ _ i _ => 2 - (intOf i).toNat)
  case atStart => exact ⟨0, Nat.zero_le _, rfl, by rw [H0.out.1], by rw [H0.out.2]; rfl, Below.refl _ _⟩
  case round =>
    obtain ⟨t, ht, rfl, rfl, rfl, hB⟩ := hrel
    have B0 := Lib.hid hB
    clear hB
    by_cases hlt : t < 2
    · have hlt' : (t : Int) < 2 := by omega
      obtain ⟨q1, q2, q3, q4⟩ := HS.out t
      have Q3 := Lib.hid q3
      have Q4 := Lib.hid q4
      clear q3 q4
      generalize it m1 k t = j at *
      generalize ct m1 g1 k t = c at *
      have HA := Lib.hid (HC1.out j q1)
      have HB := Lib.hid (HC2.out (m1 j) (HT1.out j q1))
      have HC := Lib.hid (HC2.out j q1)
      have HD := Lib.hid (HC1.out (m2 j) (HT2.out j q1))
      obtain ⟨_, _, hne, hcm⟩ := HT.out j q1
      rw [hcm] at HD
      clear hcm
      have hne' : ((m1 j : Nat) : Int) ≠ (j : Int) := by omega
      clear hne
      generalize decide (1 ≤ g1 j) = b1 at *
      generalize decide (1 ≤ g1 (m2 j)) = b2 at *
      generalize decide (1 ≤ g2 (m1 j)) = b3 at *
      generalize decide (1 ≤ g2 j) = b4 at *
      generalize m2 (m1 j) = r at *
      generalize m2 j = q at *
      generalize hp : m1 j = p at *
      rw [← hp] at Q3
      have HP := Lib.hid hp
      clear hp
      have hc4 : (c : Int) ≤ 2 := by omega
      cases b1
      all_goals
        go_wp2_with (first
          | (go_at_call 16; have hx := B3; clear hx; refine (HD.out _).mono ?_; rintro e w4 ⟨rfl, b1⟩; have B4 := Lib.hid (B3.out.trans (b1.mono B3.out.size)); clear b1)
          | (go_at_call 16; refine (HA.out _).mono ?_; rintro e w1 ⟨rfl, b1⟩; have B1 := Lib.hid (B0.out.trans (b1.mono B0.out.size)); clear b1)
          | (go_at_call 15; have hx := B2; clear hx; refine (HC.out _).mono ?_; rintro e w3 ⟨rfl, b1⟩; have B3 := Lib.hid (B2.out.trans (b1.mono B2.out.size)); clear b1)
          | (go_at_call 15; refine (HB.out _).mono ?_; rintro e w2 ⟨rfl, b1⟩; have B2 := Lib.hid (B1.out.trans (b1.mono B1.out.size)); clear b1))
        go_roundw
        case rel => exact ⟨t + 1, by omega, by go_num, by rw [Q3.out, HP.out], by rw [Q4.out]; simp, B4.out⟩
        case measure => simp [intOf]; omega
    · obtain rfl : t = 2 := by omega
      rw [HE.out.1, HE.out.2]
      go_wp2_with (fail)
      go_ret
      exact ⟨rfl, B0.out⟩

end Go.Proofs.Ytmackljhomameaa
