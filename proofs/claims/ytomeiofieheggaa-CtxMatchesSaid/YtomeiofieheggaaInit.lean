/- Contracts of ctx.Init. -/
import Derived.Test.YtomeiofieheggaaNext
namespace Go.Proofs.Ytomeiofieheggaa
open Go.RowKit
set_option linter.unusedSimpArgs false
set_option linter.unusedVariables false

/-- The place of a first state, from 1 to 126 when it is brought there. -/
def sI (i c q : Int) : Int := ((7 * i + 13 * c) % 41 - 20) * q / 16 + 40 + (11 * i + 5 * c) % 48
def inI (i c q : Int) : Prop := 0 ≤ i ∧ i ≤ 285 ∧ 0 ≤ c ∧ c ≤ 3 ∧ 0 ≤ q ∧ q ≤ 51
instance (i c q : Int) : Decidable (inI i c q) := by unfold inI; infer_instance
def pI (i c q : Int) : Int := if inI i c q then (if sI i c q ≤ 1 then 62 else if sI i c q ≤ 63 then 63 - sI i c q else if sI i c q ≤ 126 then sI i c q - 64 else 62) else 0
def bI (i c q : Int) : Int := if inI i c q then (if sI i c q ≤ 63 then 0 else 1) else 0
def eI (i c q : Int) : Int := if inI i c q then 0 else 3

theorem mq_bd {m q : Int} (h0 : -20 ≤ m) (h1 : m ≤ 20) (q0 : 0 ≤ q) (q1 : q ≤ 51) : -1020 ≤ m * q ∧ m * q ≤ 1020 := by
  constructor
  · have := Int.mul_le_mul_of_nonneg_right h0 q0
    omega
  · have := Int.mul_le_mul_of_nonneg_right h1 q0
    omega

set_option maxHeartbeats 2000000 in
theorem init_a (i c q s : Int) (i0 : 0 ≤ i) (i1 : i ≤ 285) (c0 : 0 ≤ c) (c1 : c ≤ 3) (q0 : 0 ≤ q) (q1 : q ≤ 51) (hs : ((7 * i + 13 * c) % 41 - 20) * q / 16 + 40 + (11 * i + 5 * c) % 48 = s) (h : s ≤ 1) (w : World) :
    Calls Try.prog 10 #[.int .i64 i, .int .i64 c, .int .i64 q] w fun e w' => e = .returned (.tuple #[.agg #[.int .u8 62, .int .u8 0], .int .i64 0]) ∧ Below w.heap.size w w' := by
  have z0 : 0 ≤ (7 * i + 13 * c) % 41 := by omega
  have z1 : (7 * i + 13 * c) % 41 ≤ 40 := by omega
  have y0 : 0 ≤ (11 * i + 5 * c) % 48 := by omega
  have y1 : (11 * i + 5 * c) % 48 ≤ 47 := by omega
  obtain ⟨m0, m1⟩ := mq_bd (m := (7 * i + 13 * c) % 41 - 20) (q := q) (by omega) (by omega) q0 q1
  have i2 : ¬ 286 ≤ i := by omega
  have c2 : ¬ 3 < c := by omega
  have q2 : ¬ 51 < q := by omega
  go_enter Try.func10, Try.ntmps10
  go_wp2
  all_goals
    refine bodyPost_ret (v := .tuple #[.agg #[.int .u8 62, .int .u8 0], .int .i64 0]) (by simp [results, Try.f10, go_sem]; try omega) rfl ⟨rfl, ?_⟩
    repeat (first | exact Below.refl _ _ | refine Below.setCell ?_ (by simp) _ | refine Below.alloc ?_ (by simp) _)

set_option maxHeartbeats 2000000 in
theorem init_b (i c q s : Int) (i0 : 0 ≤ i) (i1 : i ≤ 285) (c0 : 0 ≤ c) (c1 : c ≤ 3) (q0 : 0 ≤ q) (q1 : q ≤ 51) (hs : ((7 * i + 13 * c) % 41 - 20) * q / 16 + 40 + (11 * i + 5 * c) % 48 = s) (h : 1 < s) (h' : s ≤ 63) (w : World) :
    Calls Try.prog 10 #[.int .i64 i, .int .i64 c, .int .i64 q] w fun e w' => e = .returned (.tuple #[.agg #[.int .u8 (63 - s), .int .u8 0], .int .i64 0]) ∧ Below w.heap.size w w' := by
  have z0 : 0 ≤ (7 * i + 13 * c) % 41 := by omega
  have z1 : (7 * i + 13 * c) % 41 ≤ 40 := by omega
  have y0 : 0 ≤ (11 * i + 5 * c) % 48 := by omega
  have y1 : (11 * i + 5 * c) % 48 ≤ 47 := by omega
  obtain ⟨m0, m1⟩ := mq_bd (m := (7 * i + 13 * c) % 41 - 20) (q := q) (by omega) (by omega) q0 q1
  have i2 : ¬ 286 ≤ i := by omega
  have c2 : ¬ 3 < c := by omega
  have q2 : ¬ 51 < q := by omega
  go_enter Try.func10, Try.ntmps10
  go_wp2
  all_goals
    refine bodyPost_ret (v := .tuple #[.agg #[.int .u8 (63 - s), .int .u8 0], .int .i64 0]) (by simp [results, Try.f10, go_sem]; try omega) rfl ⟨rfl, ?_⟩
    repeat (first | exact Below.refl _ _ | refine Below.setCell ?_ (by simp) _ | refine Below.alloc ?_ (by simp) _)

set_option maxHeartbeats 2000000 in
theorem init_c (i c q s : Int) (i0 : 0 ≤ i) (i1 : i ≤ 285) (c0 : 0 ≤ c) (c1 : c ≤ 3) (q0 : 0 ≤ q) (q1 : q ≤ 51) (hs : ((7 * i + 13 * c) % 41 - 20) * q / 16 + 40 + (11 * i + 5 * c) % 48 = s) (h : 63 < s) (h' : s ≤ 126) (w : World) :
    Calls Try.prog 10 #[.int .i64 i, .int .i64 c, .int .i64 q] w fun e w' => e = .returned (.tuple #[.agg #[.int .u8 (s - 64), .int .u8 1], .int .i64 0]) ∧ Below w.heap.size w w' := by
  have z0 : 0 ≤ (7 * i + 13 * c) % 41 := by omega
  have z1 : (7 * i + 13 * c) % 41 ≤ 40 := by omega
  have y0 : 0 ≤ (11 * i + 5 * c) % 48 := by omega
  have y1 : (11 * i + 5 * c) % 48 ≤ 47 := by omega
  obtain ⟨m0, m1⟩ := mq_bd (m := (7 * i + 13 * c) % 41 - 20) (q := q) (by omega) (by omega) q0 q1
  have i2 : ¬ 286 ≤ i := by omega
  have c2 : ¬ 3 < c := by omega
  have q2 : ¬ 51 < q := by omega
  go_enter Try.func10, Try.ntmps10
  go_wp2
  all_goals
    refine bodyPost_ret (v := .tuple #[.agg #[.int .u8 (s - 64), .int .u8 1], .int .i64 0]) (by simp [results, Try.f10, go_sem]; try omega) rfl ⟨rfl, ?_⟩
    repeat (first | exact Below.refl _ _ | refine Below.setCell ?_ (by simp) _ | refine Below.alloc ?_ (by simp) _)

set_option maxHeartbeats 2000000 in
theorem init_d (i c q s : Int) (i0 : 0 ≤ i) (i1 : i ≤ 285) (c0 : 0 ≤ c) (c1 : c ≤ 3) (q0 : 0 ≤ q) (q1 : q ≤ 51) (hs : ((7 * i + 13 * c) % 41 - 20) * q / 16 + 40 + (11 * i + 5 * c) % 48 = s) (h : 126 < s) (w : World) :
    Calls Try.prog 10 #[.int .i64 i, .int .i64 c, .int .i64 q] w fun e w' => e = .returned (.tuple #[.agg #[.int .u8 62, .int .u8 1], .int .i64 0]) ∧ Below w.heap.size w w' := by
  have z0 : 0 ≤ (7 * i + 13 * c) % 41 := by omega
  have z1 : (7 * i + 13 * c) % 41 ≤ 40 := by omega
  have y0 : 0 ≤ (11 * i + 5 * c) % 48 := by omega
  have y1 : (11 * i + 5 * c) % 48 ≤ 47 := by omega
  obtain ⟨m0, m1⟩ := mq_bd (m := (7 * i + 13 * c) % 41 - 20) (q := q) (by omega) (by omega) q0 q1
  have i2 : ¬ 286 ≤ i := by omega
  have c2 : ¬ 3 < c := by omega
  have q2 : ¬ 51 < q := by omega
  go_enter Try.func10, Try.ntmps10
  go_wp2
  all_goals
    refine bodyPost_ret (v := .tuple #[.agg #[.int .u8 62, .int .u8 1], .int .i64 0]) (by simp [results, Try.f10, go_sem]; try omega) rfl ⟨rfl, ?_⟩
    repeat (first | exact Below.refl _ _ | refine Below.setCell ?_ (by simp) _ | refine Below.alloc ?_ (by simp) _)

set_option maxHeartbeats 2000000 in
theorem init_no (i c q : Int) (h : ¬ inI i c q) (w : World) :
    Calls Try.prog 10 #[.int .i64 i, .int .i64 c, .int .i64 q] w fun e w' => e = .returned (.tuple #[.agg #[.int .u8 0, .int .u8 0], .int .i64 3]) ∧ Below w.heap.size w w' := by
  have h' : i < 0 ∨ (¬ i < 0 ∧ 286 ≤ i) ∨ (¬ i < 0 ∧ ¬ 286 ≤ i ∧ c < 0) ∨ (¬ i < 0 ∧ ¬ 286 ≤ i ∧ ¬ c < 0 ∧ 3 < c) ∨ (¬ i < 0 ∧ ¬ 286 ≤ i ∧ ¬ c < 0 ∧ ¬ 3 < c ∧ q < 0) ∨ (¬ i < 0 ∧ ¬ 286 ≤ i ∧ ¬ c < 0 ∧ ¬ 3 < c ∧ ¬ q < 0 ∧ 51 < q) := by unfold inI at h; omega
  clear h
  rcases h' with h1 | ⟨h1, h2⟩ | ⟨h1, h2, h3⟩ | ⟨h1, h2, h3, h4⟩ | ⟨h1, h2, h3, h4, h5⟩ | ⟨h1, h2, h3, h4, h5, h6⟩
  all_goals
    go_enter Try.func10, Try.ntmps10
    go_wp2
    refine bodyPost_ret (v := .tuple #[.agg #[.int .u8 0, .int .u8 0], .int .i64 3]) (by simp [results, Try.f10, go_sem]) rfl ⟨rfl, ?_⟩
    repeat (first | exact Below.refl _ _ | refine Below.setCell ?_ (by simp) _ | refine Below.alloc ?_ (by simp) _)

/-- What Init returns. -/
theorem init_any (i c q : Int) (w : World) :
    Calls Try.prog 10 #[.int .i64 i, .int .i64 c, .int .i64 q] w fun e w' => e = .returned (.tuple #[.agg #[.int .u8 (pI i c q), .int .u8 (bI i c q)], .int .i64 (eI i c q)]) ∧ Below w.heap.size w w' := by
  by_cases hI : inI i c q
  · simp only [pI, bI, eI, if_pos hI]
    obtain ⟨i0, i1, c0, c1, q0, q1⟩ := hI
    have ra := init_a i c q (sI i c q) i0 i1 c0 c1 q0 q1 rfl
    have rb := init_b i c q (sI i c q) i0 i1 c0 c1 q0 q1 rfl
    have rc := init_c i c q (sI i c q) i0 i1 c0 c1 q0 q1 rfl
    have rd := init_d i c q (sI i c q) i0 i1 c0 c1 q0 q1 rfl
    generalize sI i c q = s at *
    by_cases h1 : s ≤ 1
    · rw [if_pos h1, if_pos (by omega)]
      exact ra h1 w
    · rw [if_neg h1]
      by_cases h2 : s ≤ 63
      · rw [if_pos h2, if_pos h2]
        exact rb (by omega) h2 w
      · rw [if_neg h2, if_neg h2]
        by_cases h3 : s ≤ 126
        · rw [if_pos h3]
          exact rc (by omega) h3 w
        · rw [if_neg h3]
          exact rd (by omega) w
  · simp only [pI, bI, eI, if_neg hI]
    exact init_no i c q hI w

end Go.Proofs.Ytomeiofieheggaa
