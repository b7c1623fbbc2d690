/- Contracts of prob.Next and of the reference's. -/
import Derived.Test.YtomeiofieheggaaBase
namespace Go.Proofs.Ytomeiofieheggaa
open Go.RowKit
set_option linter.unusedSimpArgs false
set_option linter.unusedVariables false

/-- The state after a bit, and the error. -/
def nxtP (p m b : Int) : Int := if p ≤ 62 ∧ m ≤ 1 ∧ b ≤ 1 then (if b = m then (if 62 ≤ p then 62 else p + 1) else if p = 0 then 0 else p - 1 - p * p / 160) else 0
def nxtM (p m b : Int) : Int := if p ≤ 62 ∧ m ≤ 1 ∧ b ≤ 1 then (if b = m then m else if p = 0 then b else m) else 0
def nxtE (p m b : Int) : Int := if p ≤ 62 ∧ m ≤ 1 ∧ b ≤ 1 then 0 else 3

theorem quo_le : ∀ p : Nat, p ≤ 62 → p ≠ 0 → p * p / 160 ≤ p - 1 ∧ p * p ≤ 3844 := by decide
theorem quo_bd {p : Int} (h0 : 0 ≤ p) (h1 : p ≤ 62) (hp : ¬ p = 0) : 0 ≤ p * p / 160 ∧ p * p / 160 ≤ p - 1 ∧ 0 ≤ p * p ∧ p * p ≤ 3844 := by
  obtain ⟨n, rfl⟩ : ∃ n : Nat, p = n := ⟨p.toNat, by omega⟩
  obtain ⟨a, b⟩ := quo_le n (by omega) (by omega)
  have e : ((n : Int) * n / 160) = ((n * n / 160 : Nat) : Int) := by simp
  have e2 : ((n : Int) * n) = ((n * n : Nat) : Int) := by simp
  rw [e, e2]
  omega

/-- What a call that makes no change leaves of two boxes that stand on top. -/
theorem two_boxes {w w1 : World} {p m : Int} (b1 : Below ((w.alloc (.cells #[.int .u8 p, .int .u8 m] 23)).alloc (.cells #[.int .u8 0, .int .u8 0] 23)).heap.size ((w.alloc (.cells #[.int .u8 p, .int .u8 m] 23)).alloc (.cells #[.int .u8 0, .int .u8 0] 23)) w1) :
    Below w.heap.size w w1 ∧ w.heap.size + 1 < w1.heap.size ∧ w1.cell? ⟨w.heap.size, 0, none⟩ = some (.int .u8 p) ∧ w1.cell? ⟨w.heap.size, 1, none⟩ = some (.int .u8 m) ∧ w1.cell? ⟨w.heap.size + 1, 0, none⟩ = some (.int .u8 0) ∧ w1.cell? ⟨w.heap.size + 1, 1, none⟩ = some (.int .u8 0)
      ∧ w1.frozen? ⟨w.heap.size, 0, none⟩ = false ∧ w1.frozen? ⟨w.heap.size, 1, none⟩ = false ∧ w1.frozen? ⟨w.heap.size + 1, 0, none⟩ = false ∧ w1.frozen? ⟨w.heap.size + 1, 1, none⟩ = false := by
  have e0 : Box w1 w.heap.size 23 #[.int .u8 p, .int .u8 m] := ((Box.new w 23 #[.int .u8 p, .int .u8 m]).alloc (.cells #[.int .u8 0, .int .u8 0] 23)).below b1 (by simp; omega)
  have n1 := Box.new (w.alloc (.cells #[.int .u8 p, .int .u8 m] 23)) 23 #[.int .u8 0, .int .u8 0]
  simp only [World.size_alloc] at n1
  have e1 := n1.below b1 (by simp)
  exact ⟨(((Below.refl _ w).alloc (Nat.le_refl _) _).alloc (by simp) _).trans (b1.mono (by simp; omega)), e1.lt, by simpa using e0.cell 0, by simpa using e0.cell 1, by simpa using e1.cell 0, by simpa using e1.cell 1, e0.frozen 0, e0.frozen 1, e1.frozen 0, e1.frozen 1⟩

set_option maxHeartbeats 2000000 in
theorem next_bad (p m b : Int) (h : ¬ (p ≤ 62 ∧ m ≤ 1)) (w : World) (g : Nat) (hg : g = 25 ∨ g = 26) :
    Calls Try.prog g #[.agg #[.int .u8 p, .int .u8 m], .int .u8 b] w fun e w' => e = .returned (.tuple #[.agg #[.int .u8 0, .int .u8 0], .int .i64 3]) ∧ Below w.heap.size w w' := by
  have HC := Lib.hid (fun w g hg => check_no p m (by omega) w g hg)
  clear h
  rcases hg with rfl | rfl
  · go_enter Try.func25, Try.ntmps25
    go_wp2_with (go_at_call 18; refine (HC.out _ _ (.inl rfl)).mono ?_; rintro e w1 ⟨rfl, b1⟩; obtain ⟨d0, d1, d2, d3, d4, d5, d6, d7, d8, d9⟩ := two_boxes b1; have D0 := Lib.hid d0; clear b1 d0)
    refine bodyPost_ret (v := .tuple #[.agg #[.int .u8 0, .int .u8 0], .int .i64 3]) (by simp [results, Try.f25, go_sem, d2, d3, d4, d5]) rfl ⟨rfl, ?_⟩
    have := D0.out
    repeat (first | exact this | refine Below.setCell ?_ (by simp) _ | refine Below.alloc ?_ (by simp) _)
  · go_enter Try.func26, Try.ntmps26
    go_wp2_with (go_at_call 27; refine (HC.out _ _ (.inr rfl)).mono ?_; rintro e w1 ⟨rfl, b1⟩; obtain ⟨d0, d1, d2, d3, d4, d5, d6, d7, d8, d9⟩ := two_boxes b1; have D0 := Lib.hid d0; clear b1 d0)
    refine bodyPost_ret (v := .tuple #[.agg #[.int .u8 0, .int .u8 0], .int .i64 3]) (by simp [results, Try.f26, go_sem, d2, d3, d4, d5]) rfl ⟨rfl, ?_⟩
    have := D0.out
    repeat (first | exact this | refine Below.setCell ?_ (by simp) _ | refine Below.alloc ?_ (by simp) _)

set_option maxHeartbeats 2000000 in
theorem next_bit (p m b : Int) (p0 : 0 ≤ p) (h1 : p ≤ 62) (m0 : 0 ≤ m) (h2 : m ≤ 1) (h3 : 1 < b) (w : World) (g : Nat) (hg : g = 25 ∨ g = 26) :
    Calls Try.prog g #[.agg #[.int .u8 p, .int .u8 m], .int .u8 b] w fun e w' => e = .returned (.tuple #[.agg #[.int .u8 0, .int .u8 0], .int .i64 3]) ∧ Below w.heap.size w w' := by
  have HC := Lib.hid (fun w g hg => check_yes p m h1 h2 w g hg)
  rcases hg with rfl | rfl
  · go_enter Try.func25, Try.ntmps25
    go_wp2_with (go_at_call 18; refine (HC.out _ _ (.inl rfl)).mono ?_; rintro e w1 ⟨rfl, b1⟩; obtain ⟨d0, d1, d2, d3, d4, d5, d6, d7, d8, d9⟩ := two_boxes b1; have D0 := Lib.hid d0; clear b1 d0)
    refine bodyPost_ret (v := .tuple #[.agg #[.int .u8 0, .int .u8 0], .int .i64 3]) (by simp [results, Try.f25, go_sem, d2, d3, d4, d5]) rfl ⟨rfl, ?_⟩
    have := D0.out
    repeat (first | exact this | refine Below.setCell ?_ (by simp) _ | refine Below.alloc ?_ (by simp) _)
  · go_enter Try.func26, Try.ntmps26
    go_wp2_with (go_at_call 27; refine (HC.out _ _ (.inr rfl)).mono ?_; rintro e w1 ⟨rfl, b1⟩; obtain ⟨d0, d1, d2, d3, d4, d5, d6, d7, d8, d9⟩ := two_boxes b1; have D0 := Lib.hid d0; clear b1 d0)
    refine bodyPost_ret (v := .tuple #[.agg #[.int .u8 0, .int .u8 0], .int .i64 3]) (by simp [results, Try.f26, go_sem, d2, d3, d4, d5]) rfl ⟨rfl, ?_⟩
    have := D0.out
    repeat (first | exact this | refine Below.setCell ?_ (by simp) _ | refine Below.alloc ?_ (by simp) _)

set_option maxHeartbeats 2000000 in
theorem next_max (p m b : Int) (p0 : 0 ≤ p) (h1 : p ≤ 62) (m0 : 0 ≤ m) (h2 : m ≤ 1) (h3 : ¬ 1 < b) (h4 : b = m) (h5 : 62 ≤ p) (w : World) (g : Nat) (hg : g = 25 ∨ g = 26) :
    Calls Try.prog g #[.agg #[.int .u8 p, .int .u8 m], .int .u8 b] w fun e w' => e = .returned (.tuple #[.agg #[.int .u8 62, .int .u8 m], .int .i64 0]) ∧ Below w.heap.size w w' := by
  have HC := Lib.hid (fun w g hg => check_yes p m h1 h2 w g hg)
  obtain rfl : p = 62 := by omega
  clear h5
  subst h4
  rcases hg with rfl | rfl
  · go_enter Try.func25, Try.ntmps25
    go_wp2_with (go_at_call 18; refine (HC.out _ _ (.inl rfl)).mono ?_; rintro e w1 ⟨rfl, b1⟩; obtain ⟨d0, d1, d2, d3, d4, d5, d6, d7, d8, d9⟩ := two_boxes b1; have D0 := Lib.hid d0; clear b1 d0)
    refine bodyPost_ret (v := .tuple #[.agg #[.int .u8 62, .int .u8 b], .int .i64 0]) (by simp [results, Try.f25, go_sem, d2, d3, d4, d5]) rfl ⟨rfl, ?_⟩
    have := D0.out
    repeat (first | exact this | refine Below.setCell ?_ (by simp) _ | refine Below.alloc ?_ (by simp) _)
  · go_enter Try.func26, Try.ntmps26
    go_wp2_with (go_at_call 27; refine (HC.out _ _ (.inr rfl)).mono ?_; rintro e w1 ⟨rfl, b1⟩; obtain ⟨d0, d1, d2, d3, d4, d5, d6, d7, d8, d9⟩ := two_boxes b1; have D0 := Lib.hid d0; clear b1 d0)
    refine bodyPost_ret (v := .tuple #[.agg #[.int .u8 62, .int .u8 b], .int .i64 0]) (by simp [results, Try.f26, go_sem, d2, d3, d4, d5]) rfl ⟨rfl, ?_⟩
    have := D0.out
    repeat (first | exact this | refine Below.setCell ?_ (by simp) _ | refine Below.alloc ?_ (by simp) _)

set_option maxHeartbeats 2000000 in
theorem next_more (p m b : Int) (p0 : 0 ≤ p) (h1 : p ≤ 62) (m0 : 0 ≤ m) (h2 : m ≤ 1) (h3 : ¬ 1 < b) (h4 : b = m) (h5 : p < 62) (w : World) (g : Nat) (hg : g = 25 ∨ g = 26) :
    Calls Try.prog g #[.agg #[.int .u8 p, .int .u8 m], .int .u8 b] w fun e w' => e = .returned (.tuple #[.agg #[.int .u8 (p + 1), .int .u8 m], .int .i64 0]) ∧ Below w.heap.size w w' := by
  have HC := Lib.hid (fun w g hg => check_yes p m h1 h2 w g hg)
  subst h4
  rcases hg with rfl | rfl
  · go_enter Try.func25, Try.ntmps25
    go_wp2_with (go_at_call 18; refine (HC.out _ _ (.inl rfl)).mono ?_; rintro e w1 ⟨rfl, b1⟩; obtain ⟨d0, d1, d2, d3, d4, d5, d6, d7, d8, d9⟩ := two_boxes b1; have D0 := Lib.hid d0; clear b1 d0)
    refine bodyPost_ret (v := .tuple #[.agg #[.int .u8 (p + 1), .int .u8 b], .int .i64 0]) (by simp [results, Try.f25, go_sem, d2, d3, d4, d5]) rfl ⟨rfl, ?_⟩
    have := D0.out
    repeat (first | exact this | refine Below.setCell ?_ (by simp) _ | refine Below.alloc ?_ (by simp) _)
  · rcases (show p = 61 ∨ p < 61 by omega) with rfl | h6
    · go_enter Try.func26, Try.ntmps26
      go_wp2_with (go_at_call 27; refine (HC.out _ _ (.inr rfl)).mono ?_; rintro e w1 ⟨rfl, b1⟩; obtain ⟨d0, d1, d2, d3, d4, d5, d6, d7, d8, d9⟩ := two_boxes b1; have D0 := Lib.hid d0; clear b1 d0)
      refine bodyPost_ret (v := .tuple #[.agg #[.int .u8 62, .int .u8 b], .int .i64 0]) (by simp [results, Try.f26, go_sem, d2, d3, d4, d5]) rfl ⟨rfl, ?_⟩
      have := D0.out
      repeat (first | exact this | refine Below.setCell ?_ (by simp) _ | refine Below.alloc ?_ (by simp) _)
    · go_enter Try.func26, Try.ntmps26
      go_wp2_with (go_at_call 27; refine (HC.out _ _ (.inr rfl)).mono ?_; rintro e w1 ⟨rfl, b1⟩; obtain ⟨d0, d1, d2, d3, d4, d5, d6, d7, d8, d9⟩ := two_boxes b1; have D0 := Lib.hid d0; clear b1 d0)
      refine bodyPost_ret (v := .tuple #[.agg #[.int .u8 (p + 1), .int .u8 b], .int .i64 0]) (by simp [results, Try.f26, go_sem, d2, d3, d4, d5]) rfl ⟨rfl, ?_⟩
      have := D0.out
      repeat (first | exact this | refine Below.setCell ?_ (by simp) _ | refine Below.alloc ?_ (by simp) _)

set_option maxHeartbeats 2000000 in
theorem next_turn (p m b : Int) (p0 : 0 ≤ p) (h1 : p ≤ 62) (m0 : 0 ≤ m) (h2 : m ≤ 1) (b0 : 0 ≤ b) (h3 : ¬ 1 < b) (h4 : ¬ b = m) (h5 : p = 0) (w : World) (g : Nat) (hg : g = 25 ∨ g = 26) :
    Calls Try.prog g #[.agg #[.int .u8 p, .int .u8 m], .int .u8 b] w fun e w' => e = .returned (.tuple #[.agg #[.int .u8 0, .int .u8 b], .int .i64 0]) ∧ Below w.heap.size w w' := by
  have HC := Lib.hid (fun w g hg => check_yes p m h1 h2 w g hg)
  subst h5
  have h6 : 1 - m = b := by omega
  rcases hg with rfl | rfl
  · go_enter Try.func25, Try.ntmps25
    go_wp2_with (go_at_call 18; refine (HC.out _ _ (.inl rfl)).mono ?_; rintro e w1 ⟨rfl, b1⟩; obtain ⟨d0, d1, d2, d3, d4, d5, d6, d7, d8, d9⟩ := two_boxes b1; have D0 := Lib.hid d0; clear b1 d0)
    refine bodyPost_ret (v := .tuple #[.agg #[.int .u8 0, .int .u8 b], .int .i64 0]) (by simp [results, Try.f25, go_sem, d2, d3, d4, d5]) rfl ⟨rfl, ?_⟩
    have := D0.out
    repeat (first | exact this | refine Below.setCell ?_ (by simp) _ | refine Below.alloc ?_ (by simp) _)
  · go_enter Try.func26, Try.ntmps26
    go_wp2_with (go_at_call 27; refine (HC.out _ _ (.inr rfl)).mono ?_; rintro e w1 ⟨rfl, b1⟩; obtain ⟨d0, d1, d2, d3, d4, d5, d6, d7, d8, d9⟩ := two_boxes b1; have D0 := Lib.hid d0; clear b1 d0)
    refine bodyPost_ret (v := .tuple #[.agg #[.int .u8 0, .int .u8 b], .int .i64 0]) (by simp [results, Try.f26, go_sem, d2, d3, d4, d5]) rfl ⟨rfl, ?_⟩
    have := D0.out
    repeat (first | exact this | refine Below.setCell ?_ (by simp) _ | refine Below.alloc ?_ (by simp) _)

set_option maxHeartbeats 2000000 in
theorem next_less (p m b : Int) (p0 : 0 ≤ p) (h1 : p ≤ 62) (m0 : 0 ≤ m) (h2 : m ≤ 1) (b0 : 0 ≤ b) (h3 : ¬ 1 < b) (h4 : ¬ b = m) (h5 : ¬ p = 0) (w : World) (g : Nat) (hg : g = 25 ∨ g = 26) :
    Calls Try.prog g #[.agg #[.int .u8 p, .int .u8 m], .int .u8 b] w fun e w' => e = .returned (.tuple #[.agg #[.int .u8 (p - 1 - p * p / 160), .int .u8 m], .int .i64 0]) ∧ Below w.heap.size w w' := by
  have HC := Lib.hid (fun w g hg => check_yes p m h1 h2 w g hg)
  obtain ⟨q1, q2, q3, q4⟩ := quo_bd p0 h1 h5
  rcases hg with rfl | rfl
  · go_enter Try.func25, Try.ntmps25
    go_wp2_with (go_at_call 18; refine (HC.out _ _ (.inl rfl)).mono ?_; rintro e w1 ⟨rfl, b1⟩; obtain ⟨d0, d1, d2, d3, d4, d5, d6, d7, d8, d9⟩ := two_boxes b1; have D0 := Lib.hid d0; clear b1 d0)
    refine bodyPost_ret (v := .tuple #[.agg #[.int .u8 (p - 1 - p * p / 160), .int .u8 m], .int .i64 0]) (by simp [results, Try.f25, go_sem, d2, d3, d4, d5]) rfl ⟨rfl, ?_⟩
    have := D0.out
    repeat (first | exact this | refine Below.setCell ?_ (by simp) _ | refine Below.alloc ?_ (by simp) _)
  · go_enter Try.func26, Try.ntmps26
    go_wp2_with (go_at_call 27; refine (HC.out _ _ (.inr rfl)).mono ?_; rintro e w1 ⟨rfl, b1⟩; obtain ⟨d0, d1, d2, d3, d4, d5, d6, d7, d8, d9⟩ := two_boxes b1; have D0 := Lib.hid d0; clear b1 d0)
    refine bodyPost_ret (v := .tuple #[.agg #[.int .u8 (p - 1 - p * p / 160), .int .u8 m], .int .i64 0]) (by simp [results, Try.f26, go_sem, d2, d3, d4, d5]) rfl ⟨rfl, ?_⟩
    have := D0.out
    repeat (first | exact this | refine Below.setCell ?_ (by simp) _ | refine Below.alloc ?_ (by simp) _)

theorem next_any (p m b : Int) (p0 : 0 ≤ p) (m0 : 0 ≤ m) (b0 : 0 ≤ b) (w : World) (g : Nat) (hg : g = 25 ∨ g = 26) :
    Calls Try.prog g #[.agg #[.int .u8 p, .int .u8 m], .int .u8 b] w fun e w' => e = .returned (.tuple #[.agg #[.int .u8 (nxtP p m b), .int .u8 (nxtM p m b)], .int .i64 (nxtE p m b)]) ∧ Below w.heap.size w w' := by
  by_cases hv : p ≤ 62 ∧ m ≤ 1
  · obtain ⟨h1, h2⟩ := hv
    by_cases h3 : 1 < b
    · have h : ¬ (p ≤ 62 ∧ m ≤ 1 ∧ b ≤ 1) := by omega
      simp only [nxtP, nxtM, nxtE, if_neg h]
      exact next_bit p m b p0 h1 m0 h2 h3 w g hg
    · have h : p ≤ 62 ∧ m ≤ 1 ∧ b ≤ 1 := by omega
      simp only [nxtP, nxtM, nxtE, if_pos h]
      by_cases h4 : b = m
      · simp only [if_pos h4]
        by_cases h5 : 62 ≤ p
        · simp only [if_pos h5]
          exact next_max p m b p0 h1 m0 h2 h3 h4 h5 w g hg
        · simp only [if_neg h5]
          exact next_more p m b p0 h1 m0 h2 h3 h4 (by omega) w g hg
      · simp only [if_neg h4]
        by_cases h5 : p = 0
        · simp only [if_pos h5]
          exact next_turn p m b p0 h1 m0 h2 b0 h3 h4 h5 w g hg
        · simp only [if_neg h5]
          exact next_less p m b p0 h1 m0 h2 b0 h3 h4 h5 w g hg
  · have h : ¬ (p ≤ 62 ∧ m ≤ 1 ∧ b ≤ 1) := by omega
    simp only [nxtP, nxtM, nxtE, if_neg h]
    exact next_bad p m b hv w g hg

end Go.Proofs.Ytomeiofieheggaa
