/- Contracts of the reference's Init. -/
import Derived.Test.YtomeiofieheggaaInit
namespace Go.Proofs.Ytomeiofieheggaa
open Go.RowKit
set_option linter.unusedSimpArgs false
set_option linter.unusedVariables false

set_option maxHeartbeats 4000000 in
theorem rinit_a (i c q s : Int) (i0 : 0 ≤ i) (i1 : i ≤ 285) (c0 : 0 ≤ c) (c1 : c ≤ 3) (q0 : 0 ≤ q) (q1 : q ≤ 51) (hs : ((7 * i + 13 * c) % 41 - 20) * q / 16 + 40 + (11 * i + 5 * c) % 48 = s) (h : s ≤ 1) (w : World) :
    Calls Try.prog 11 #[.int .i64 i, .int .i64 c, .int .i64 q] w fun e w' => e = .returned (.tuple #[.agg #[.int .u8 62, .int .u8 0], .int .i64 0]) ∧ Below w.heap.size w w' := by
  have z0 : 0 ≤ (7 * i + 13 * c) % 41 := by omega
  have z1 : (7 * i + 13 * c) % 41 ≤ 40 := by omega
  have y0 : 0 ≤ (11 * i + 5 * c) % 48 := by omega
  have y1 : (11 * i + 5 * c) % 48 ≤ 47 := by omega
  obtain ⟨m0, m1⟩ := mq_bd (m := (7 * i + 13 * c) % 41 - 20) (q := q) (by omega) (by omega) q0 q1
  have i2 : ¬ 286 ≤ i := by omega
  have c2 : ¬ 3 < c := by omega
  have q2 : ¬ 51 < q := by omega
  have HS := Lib.hid hs
  clear hs
  go_enter Try.func11, Try.ntmps11
  go_wp2
  go_loopw [10] (fun v wr => ∃ k : Nat, v = .int .i64 (-64 + k : Int) ∧ (-64 + k : Int) ≤ ((7 * i + 13 * c) % 41 - 20) * q / 16 ∧ wr = w.alloc (.cells #[.int .u8 0, .int .u8 0] 23)) (fun v _ => 128 - (intOf v + 64).toNat)
  case atStart => exact ⟨0, by simp, by simp; omega, rfl⟩
  case round =>
    obtain ⟨k, rfl, hk, rfl⟩ := hrel
    obtain ⟨r, hr⟩ : ∃ r : Int, r = -64 + k := ⟨_, rfl⟩
    rw [← hr] at hk ⊢
    have HR := Lib.hid hr
    have r0 : -64 ≤ r := by omega
    have r1 : r ≤ 64 := by omega
    clear hr
    by_cases hle : 16 * (r + 1) ≤ ((7 * i + 13 * c) % 41 - 20) * q
    · go_wp2
      go_roundw
      case rel => exact ⟨k + 1, by rw [HR.out]; go_num, by have := HR.out; omega, trivial⟩
      case measure => simp [intOf]; omega
    · have he : r + (40 + (11 * i + 5 * c) % 48) = s := by have := HS.out; omega
      clear hk
      go_wp2
      all_goals
        refine bodyPost_ret (v := .tuple #[.agg #[.int .u8 62, .int .u8 0], .int .i64 0]) (by simp [results, Try.f11, go_sem]; try omega) rfl ⟨rfl, ?_⟩
        repeat (first | exact Below.refl _ _ | refine Below.setCell ?_ (by simp) _ | refine Below.alloc ?_ (by simp) _)

set_option maxHeartbeats 4000000 in
theorem rinit_b (i c q s : Int) (i0 : 0 ≤ i) (i1 : i ≤ 285) (c0 : 0 ≤ c) (c1 : c ≤ 3) (q0 : 0 ≤ q) (q1 : q ≤ 51) (hs : ((7 * i + 13 * c) % 41 - 20) * q / 16 + 40 + (11 * i + 5 * c) % 48 = s) (h : 1 < s) (h' : s ≤ 63) (w : World) :
    Calls Try.prog 11 #[.int .i64 i, .int .i64 c, .int .i64 q] w fun e w' => e = .returned (.tuple #[.agg #[.int .u8 (63 - s), .int .u8 0], .int .i64 0]) ∧ Below w.heap.size w w' := by
  have z0 : 0 ≤ (7 * i + 13 * c) % 41 := by omega
  have z1 : (7 * i + 13 * c) % 41 ≤ 40 := by omega
  have y0 : 0 ≤ (11 * i + 5 * c) % 48 := by omega
  have y1 : (11 * i + 5 * c) % 48 ≤ 47 := by omega
  obtain ⟨m0, m1⟩ := mq_bd (m := (7 * i + 13 * c) % 41 - 20) (q := q) (by omega) (by omega) q0 q1
  have i2 : ¬ 286 ≤ i := by omega
  have c2 : ¬ 3 < c := by omega
  have q2 : ¬ 51 < q := by omega
  have HS := Lib.hid hs
  clear hs
  go_enter Try.func11, Try.ntmps11
  go_wp2
  go_loopw [10] (fun v wr => ∃ k : Nat, v = .int .i64 (-64 + k : Int) ∧ (-64 + k : Int) ≤ ((7 * i + 13 * c) % 41 - 20) * q / 16 ∧ wr = w.alloc (.cells #[.int .u8 0, .int .u8 0] 23)) (fun v _ => 128 - (intOf v + 64).toNat)
  case atStart => exact ⟨0, by simp, by simp; omega, rfl⟩
  case round =>
    obtain ⟨k, rfl, hk, rfl⟩ := hrel
    obtain ⟨r, hr⟩ : ∃ r : Int, r = -64 + k := ⟨_, rfl⟩
    rw [← hr] at hk ⊢
    have HR := Lib.hid hr
    have r0 : -64 ≤ r := by omega
    have r1 : r ≤ 64 := by omega
    clear hr
    by_cases hle : 16 * (r + 1) ≤ ((7 * i + 13 * c) % 41 - 20) * q
    · go_wp2
      go_roundw
      case rel => exact ⟨k + 1, by rw [HR.out]; go_num, by have := HR.out; omega, trivial⟩
      case measure => simp [intOf]; omega
    · have he : r + (40 + (11 * i + 5 * c) % 48) = s := by have := HS.out; omega
      clear hk
      go_wp2
      all_goals
        refine bodyPost_ret (v := .tuple #[.agg #[.int .u8 (63 - s), .int .u8 0], .int .i64 0]) (by simp [results, Try.f11, go_sem]; try omega) rfl ⟨rfl, ?_⟩
        repeat (first | exact Below.refl _ _ | refine Below.setCell ?_ (by simp) _ | refine Below.alloc ?_ (by simp) _)

set_option maxHeartbeats 4000000 in
theorem rinit_c (i c q s : Int) (i0 : 0 ≤ i) (i1 : i ≤ 285) (c0 : 0 ≤ c) (c1 : c ≤ 3) (q0 : 0 ≤ q) (q1 : q ≤ 51) (hs : ((7 * i + 13 * c) % 41 - 20) * q / 16 + 40 + (11 * i + 5 * c) % 48 = s) (h : 63 < s) (h' : s ≤ 126) (w : World) :
    Calls Try.prog 11 #[.int .i64 i, .int .i64 c, .int .i64 q] w fun e w' => e = .returned (.tuple #[.agg #[.int .u8 (s - 64), .int .u8 1], .int .i64 0]) ∧ Below w.heap.size w w' := by
  have z0 : 0 ≤ (7 * i + 13 * c) % 41 := by omega
  have z1 : (7 * i + 13 * c) % 41 ≤ 40 := by omega
  have y0 : 0 ≤ (11 * i + 5 * c) % 48 := by omega
  have y1 : (11 * i + 5 * c) % 48 ≤ 47 := by omega
  obtain ⟨m0, m1⟩ := mq_bd (m := (7 * i + 13 * c) % 41 - 20) (q := q) (by omega) (by omega) q0 q1
  have i2 : ¬ 286 ≤ i := by omega
  have c2 : ¬ 3 < c := by omega
  have q2 : ¬ 51 < q := by omega
  have HS := Lib.hid hs
  clear hs
  go_enter Try.func11, Try.ntmps11
  go_wp2
  go_loopw [10] (fun v wr => ∃ k : Nat, v = .int .i64 (-64 + k : Int) ∧ (-64 + k : Int) ≤ ((7 * i + 13 * c) % 41 - 20) * q / 16 ∧ wr = w.alloc (.cells #[.int .u8 0, .int .u8 0] 23)) (fun v _ => 128 - (intOf v + 64).toNat)
  case atStart => exact ⟨0, by simp, by simp; omega, rfl⟩
  case round =>
    obtain ⟨k, rfl, hk, rfl⟩ := hrel
    obtain ⟨r, hr⟩ : ∃ r : Int, r = -64 + k := ⟨_, rfl⟩
    rw [← hr] at hk ⊢
    have HR := Lib.hid hr
    have r0 : -64 ≤ r := by omega
    have r1 : r ≤ 64 := by omega
    clear hr
    by_cases hle : 16 * (r + 1) ≤ ((7 * i + 13 * c) % 41 - 20) * q
    · go_wp2
      go_roundw
      case rel => exact ⟨k + 1, by rw [HR.out]; go_num, by have := HR.out; omega, trivial⟩
      case measure => simp [intOf]; omega
    · have he : r + (40 + (11 * i + 5 * c) % 48) = s := by have := HS.out; omega
      clear hk
      go_wp2
      all_goals
        refine bodyPost_ret (v := .tuple #[.agg #[.int .u8 (s - 64), .int .u8 1], .int .i64 0]) (by simp [results, Try.f11, go_sem]; try omega) rfl ⟨rfl, ?_⟩
        repeat (first | exact Below.refl _ _ | refine Below.setCell ?_ (by simp) _ | refine Below.alloc ?_ (by simp) _)

set_option maxHeartbeats 4000000 in
theorem rinit_d (i c q s : Int) (i0 : 0 ≤ i) (i1 : i ≤ 285) (c0 : 0 ≤ c) (c1 : c ≤ 3) (q0 : 0 ≤ q) (q1 : q ≤ 51) (hs : ((7 * i + 13 * c) % 41 - 20) * q / 16 + 40 + (11 * i + 5 * c) % 48 = s) (h : 126 < s) (w : World) :
    Calls Try.prog 11 #[.int .i64 i, .int .i64 c, .int .i64 q] w fun e w' => e = .returned (.tuple #[.agg #[.int .u8 62, .int .u8 1], .int .i64 0]) ∧ Below w.heap.size w w' := by
  have z0 : 0 ≤ (7 * i + 13 * c) % 41 := by omega
  have z1 : (7 * i + 13 * c) % 41 ≤ 40 := by omega
  have y0 : 0 ≤ (11 * i + 5 * c) % 48 := by omega
  have y1 : (11 * i + 5 * c) % 48 ≤ 47 := by omega
  obtain ⟨m0, m1⟩ := mq_bd (m := (7 * i + 13 * c) % 41 - 20) (q := q) (by omega) (by omega) q0 q1
  have i2 : ¬ 286 ≤ i := by omega
  have c2 : ¬ 3 < c := by omega
  have q2 : ¬ 51 < q := by omega
  have HS := Lib.hid hs
  clear hs
  go_enter Try.func11, Try.ntmps11
  go_wp2
  go_loopw [10] (fun v wr => ∃ k : Nat, v = .int .i64 (-64 + k : Int) ∧ (-64 + k : Int) ≤ ((7 * i + 13 * c) % 41 - 20) * q / 16 ∧ wr = w.alloc (.cells #[.int .u8 0, .int .u8 0] 23)) (fun v _ => 128 - (intOf v + 64).toNat)
  case atStart => exact ⟨0, by simp, by simp; omega, rfl⟩
  case round =>
    obtain ⟨k, rfl, hk, rfl⟩ := hrel
    obtain ⟨r, hr⟩ : ∃ r : Int, r = -64 + k := ⟨_, rfl⟩
    rw [← hr] at hk ⊢
    have HR := Lib.hid hr
    have r0 : -64 ≤ r := by omega
    have r1 : r ≤ 64 := by omega
    clear hr
    by_cases hle : 16 * (r + 1) ≤ ((7 * i + 13 * c) % 41 - 20) * q
    · go_wp2
      go_roundw
      case rel => exact ⟨k + 1, by rw [HR.out]; go_num, by have := HR.out; omega, trivial⟩
      case measure => simp [intOf]; omega
    · have he : r + (40 + (11 * i + 5 * c) % 48) = s := by have := HS.out; omega
      clear hk
      go_wp2
      all_goals
        refine bodyPost_ret (v := .tuple #[.agg #[.int .u8 62, .int .u8 1], .int .i64 0]) (by simp [results, Try.f11, go_sem]; try omega) rfl ⟨rfl, ?_⟩
        repeat (first | exact Below.refl _ _ | refine Below.setCell ?_ (by simp) _ | refine Below.alloc ?_ (by simp) _)

set_option maxHeartbeats 2000000 in
theorem rinit_no (i c q : Int) (h : ¬ inI i c q) (w : World) :
    Calls Try.prog 11 #[.int .i64 i, .int .i64 c, .int .i64 q] w fun e w' => e = .returned (.tuple #[.agg #[.int .u8 0, .int .u8 0], .int .i64 3]) ∧ Below w.heap.size w w' := by
  have h' : i < 0 ∨ (¬ i < 0 ∧ 286 ≤ i) ∨ (¬ i < 0 ∧ ¬ 286 ≤ i ∧ c < 0) ∨ (¬ i < 0 ∧ ¬ 286 ≤ i ∧ ¬ c < 0 ∧ 3 < c) ∨ (¬ i < 0 ∧ ¬ 286 ≤ i ∧ ¬ c < 0 ∧ ¬ 3 < c ∧ q < 0) ∨ (¬ i < 0 ∧ ¬ 286 ≤ i ∧ ¬ c < 0 ∧ ¬ 3 < c ∧ ¬ q < 0 ∧ 51 < q) := by unfold inI at h; omega
  clear h
  rcases h' with h1 | ⟨h1, h2⟩ | ⟨h1, h2, h3⟩ | ⟨h1, h2, h3, h4⟩ | ⟨h1, h2, h3, h4, h5⟩ | ⟨h1, h2, h3, h4, h5, h6⟩
  all_goals
    go_enter Try.func11, Try.ntmps11
    go_wp2
    refine bodyPost_ret (v := .tuple #[.agg #[.int .u8 0, .int .u8 0], .int .i64 3]) (by simp [results, Try.f11, go_sem]) rfl ⟨rfl, ?_⟩
    repeat (first | exact Below.refl _ _ | refine Below.setCell ?_ (by simp) _ | refine Below.alloc ?_ (by simp) _)

/-- What Init returns. -/
theorem rinit_any (i c q : Int) (w : World) :
    Calls Try.prog 11 #[.int .i64 i, .int .i64 c, .int .i64 q] w fun e w' => e = .returned (.tuple #[.agg #[.int .u8 (pI i c q), .int .u8 (bI i c q)], .int .i64 (eI i c q)]) ∧ Below w.heap.size w w' := by
  by_cases hI : inI i c q
  · simp only [pI, bI, eI, if_pos hI]
    obtain ⟨i0, i1, c0, c1, q0, q1⟩ := hI
    have ra := rinit_a i c q (sI i c q) i0 i1 c0 c1 q0 q1 rfl
    have rb := rinit_b i c q (sI i c q) i0 i1 c0 c1 q0 q1 rfl
    have rc := rinit_c i c q (sI i c q) i0 i1 c0 c1 q0 q1 rfl
    have rd := rinit_d i c q (sI i c q) i0 i1 c0 c1 q0 q1 rfl
    generalize sI i c q = s at *
    by_cases h1 : s ≤ 1
    · rw [if_pos h1, if_pos (by omega)]
      exact ra h1 w
    · rw [if_neg h1]
      by_cases h2 : s ≤ 63
      · rw [if_pos h2, if_pos h2]
        exact rb (by omega) h2 w
      · rw [if_neg h2, if_neg h2]
        by_cases h3 : s ≤ 126
        · rw [if_pos h3]
          exact rc (by omega) h3 w
        · rw [if_neg h3]
          exact rd (by omega) w
  · simp only [pI, bI, eI, if_neg hI]
    exact rinit_no i c q hI w

end Go.Proofs.Ytomeiofieheggaa
