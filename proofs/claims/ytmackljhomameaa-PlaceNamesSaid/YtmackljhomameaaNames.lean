/- The closure of PlaceNames, and the walk of PlaceNames. -/
import Derived.Test.YtmackljhomameaaRef
namespace Go.Proofs.Ytmackljhomameaa
open Go.RowKit

theorem stp13 (k n : Int) (s : Bool) (H : Hid (∀ w, Calls Try.prog 13 #[.int .i64 k] w fun e w' => e = .returned (.tuple #[.int .i64 n, .bool s, .int .i64 0]) ∧ Below w.heap.size w w')) (w : World) :
    Calls Try.prog 19 #[.func (.func 13) #[] #[], .int .i64 k, .int .i64 n, .bool s] w fun e w' => e = .returned (.bool true) ∧ Below w.heap.size w w' := by
  go_enter Try.func19, Try.ntmps19
  go_wp2_with (go_at_call 13; refine (H.out _).mono ?_; rintro e w1 ⟨rfl, b1⟩; have B1 := Lib.hid b1; clear b1)
  go_ret
  exact ⟨rfl, B1.out⟩

theorem stp14 (k n : Int) (s : Bool) (H : Hid (∀ w, Calls Try.prog 14 #[.int .i64 k] w fun e w' => e = .returned (.tuple #[.int .i64 n, .bool s, .int .i64 0]) ∧ Below w.heap.size w w')) (w : World) :
    Calls Try.prog 19 #[.func (.func 14) #[] #[], .int .i64 k, .int .i64 n, .bool s] w fun e w' => e = .returned (.bool true) ∧ Below w.heap.size w w' := by
  go_enter Try.func19, Try.ntmps19
  go_wp2_with (go_at_call 14; refine (H.out _).mono ?_; rintro e w1 ⟨rfl, b1⟩; have B1 := Lib.hid b1; clear b1)
  go_ret
  exact ⟨rfl, B1.out⟩

theorem stp15 (k n : Int) (s : Bool) (H : Hid (∀ w, Calls Try.prog 15 #[.int .i64 k] w fun e w' => e = .returned (.tuple #[.int .i64 n, .bool s, .int .i64 0]) ∧ Below w.heap.size w w')) (w : World) :
    Calls Try.prog 19 #[.func (.func 15) #[] #[], .int .i64 k, .int .i64 n, .bool s] w fun e w' => e = .returned (.bool true) ∧ Below w.heap.size w w' := by
  go_enter Try.func19, Try.ntmps19
  go_wp2_with (go_at_call 15; refine (H.out _).mono ?_; rintro e w1 ⟨rfl, b1⟩; have B1 := Lib.hid b1; clear b1)
  go_ret
  exact ⟨rfl, B1.out⟩

theorem stp16 (k n : Int) (s : Bool) (H : Hid (∀ w, Calls Try.prog 16 #[.int .i64 k] w fun e w' => e = .returned (.tuple #[.int .i64 n, .bool s, .int .i64 0]) ∧ Below w.heap.size w w')) (w : World) :
    Calls Try.prog 19 #[.func (.func 16) #[] #[], .int .i64 k, .int .i64 n, .bool s] w fun e w' => e = .returned (.bool true) ∧ Below w.heap.size w w' := by
  go_enter Try.func19, Try.ntmps19
  go_wp2_with (go_at_call 16; refine (H.out _).mono ?_; rintro e w1 ⟨rfl, b1⟩; have B1 := Lib.hid b1; clear b1)
  go_ret
  exact ⟨rfl, B1.out⟩

set_option maxRecDepth 100000 in
set_option maxHeartbeats 8000000 in
theorem names_walk (w : World) : Calls Try.prog 6 #[] w fun e w' => e = .returned (.bool true) ∧ Below w.heap.size w w' := by
  have HA16 := Lib.hid (show ∀ w, Calls Try.prog 17 #[.int .i64 16] w fun e w' => e = .returned (.tuple #[.int .i64 0, .int .i64 0, .int .i64 3]) ∧ Below w.heap.size w w' from at_any 16)
  have HB4 := Lib.hid (show ∀ w, Calls Try.prog 18 #[.int .i64 4, .int .i64 0] w fun e w' => e = .returned (.tuple #[.int .i64 0, .int .i64 3]) ∧ Below w.heap.size w w' from block_any 4 0)
  have HN2 := Lib.hid (show ∀ w, Calls Try.prog 9 #[.int .i64 2, .int .i64 3, .int .i64 4] w fun e w' => e = .returned (.tuple #[.int .i64 0, .int .i64 0, .int .i64 3]) ∧ w = w' from fun w => near_no 2 3 4 (by decide) w 9 (.inl rfl))
  have HA0 := Lib.hid (show ∀ w, Calls Try.prog 17 #[.int .i64 0] w fun e w' => e = .returned (.tuple #[.int .i64 0, .int .i64 0, .int .i64 0]) ∧ Below w.heap.size w w' from at_any 0)
  have HB0' := Lib.hid (show ∀ w, Calls Try.prog 18 #[.int .i64 0, .int .i64 0] w fun e w' => e = .returned (.tuple #[.int .i64 0, .int .i64 0]) ∧ Below w.heap.size w w' from block_any 0 0)
  have HA1 := Lib.hid (show ∀ w, Calls Try.prog 17 #[.int .i64 3] w fun e w' => e = .returned (.tuple #[.int .i64 1, .int .i64 1, .int .i64 0]) ∧ Below w.heap.size w w' from at_any 3)
  have HB1' := Lib.hid (show ∀ w, Calls Try.prog 18 #[.int .i64 1, .int .i64 1] w fun e w' => e = .returned (.tuple #[.int .i64 3, .int .i64 0]) ∧ Below w.heap.size w w' from block_any 1 1)
  have HA2 := Lib.hid (show ∀ w, Calls Try.prog 17 #[.int .i64 6] w fun e w' => e = .returned (.tuple #[.int .i64 2, .int .i64 1, .int .i64 0]) ∧ Below w.heap.size w w' from at_any 6)
  have HB2' := Lib.hid (show ∀ w, Calls Try.prog 18 #[.int .i64 2, .int .i64 1] w fun e w' => e = .returned (.tuple #[.int .i64 6, .int .i64 0]) ∧ Below w.heap.size w w' from block_any 2 1)
  have HA3 := Lib.hid (show ∀ w, Calls Try.prog 17 #[.int .i64 13] w fun e w' => e = .returned (.tuple #[.int .i64 3, .int .i64 2, .int .i64 0]) ∧ Below w.heap.size w w' from at_any 13)
  have HB3' := Lib.hid (show ∀ w, Calls Try.prog 18 #[.int .i64 3, .int .i64 2] w fun e w' => e = .returned (.tuple #[.int .i64 13, .int .i64 0]) ∧ Below w.heap.size w w' from block_any 3 2)
  have HN0' := Lib.hid (show ∀ w, Calls Try.prog 9 #[.int .i64 5, .int .i64 0, .int .i64 4] w fun e w' => e = .returned (.tuple #[.int .i64 4, .int .i64 1, .int .i64 0]) ∧ w = w' from fun w => near_yes 5 0 4 (by decide) (by decide) (by decide) (by decide) (by decide) (by decide) w 9 (.inl rfl))
  have HN1' := Lib.hid (show ∀ w, Calls Try.prog 9 #[.int .i64 4, .int .i64 0, .int .i64 4] w fun e w' => e = .returned (.tuple #[.int .i64 (-1), .int .i64 0, .int .i64 0]) ∧ w = w' from fun w => near_yes 4 0 4 (by decide) (by decide) (by decide) (by decide) (by decide) (by decide) w 9 (.inl rfl))
  have HN2' := Lib.hid (show ∀ w, Calls Try.prog 9 #[.int .i64 5, .int .i64 3, .int .i64 4] w fun e w' => e = .returned (.tuple #[.int .i64 4, .int .i64 (-1), .int .i64 0]) ∧ w = w' from fun w => near_yes 5 3 4 (by decide) (by decide) (by decide) (by decide) (by decide) (by decide) w 9 (.inl rfl))
  have HN3' := Lib.hid (show ∀ w, Calls Try.prog 9 #[.int .i64 5, .int .i64 5, .int .i64 4] w fun e w' => e = .returned (.tuple #[.int .i64 (-1), .int .i64 (-1), .int .i64 0]) ∧ w = w' from fun w => near_yes 5 5 4 (by decide) (by decide) (by decide) (by decide) (by decide) (by decide) w 9 (.inl rfl))
  have HS0 := Lib.hid (stp13 1 0 true (Lib.hid (show ∀ w, Calls Try.prog 13 #[.int .i64 1] w fun e w' => e = .returned (.tuple #[.int .i64 0, .bool true, .int .i64 0]) ∧ Below w.heap.size w w' from left_any 1)))
  have HS1 := Lib.hid (stp13 0 5 false (Lib.hid (show ∀ w, Calls Try.prog 13 #[.int .i64 0] w fun e w' => e = .returned (.tuple #[.int .i64 5, .bool false, .int .i64 0]) ∧ Below w.heap.size w w' from left_any 0)))
  have HS2 := Lib.hid (stp13 6 3 true (Lib.hid (show ∀ w, Calls Try.prog 13 #[.int .i64 6] w fun e w' => e = .returned (.tuple #[.int .i64 3, .bool true, .int .i64 0]) ∧ Below w.heap.size w w' from left_any 6)))
  have HS3 := Lib.hid (stp14 8 2 true (Lib.hid (show ∀ w, Calls Try.prog 14 #[.int .i64 8] w fun e w' => e = .returned (.tuple #[.int .i64 2, .bool true, .int .i64 0]) ∧ Below w.heap.size w w' from above_any 8)))
  have HS4 := Lib.hid (stp14 5 15 false (Lib.hid (show ∀ w, Calls Try.prog 14 #[.int .i64 5] w fun e w' => e = .returned (.tuple #[.int .i64 15, .bool false, .int .i64 0]) ∧ Below w.heap.size w w' from above_any 5)))
  have HS5 := Lib.hid (stp15 1 0 true (Lib.hid (show ∀ w, Calls Try.prog 15 #[.int .i64 1] w fun e w' => e = .returned (.tuple #[.int .i64 0, .bool true, .int .i64 0]) ∧ Below w.heap.size w w' from chleft_any 1)))
  have HS6 := Lib.hid (stp15 2 3 false (Lib.hid (show ∀ w, Calls Try.prog 15 #[.int .i64 2] w fun e w' => e = .returned (.tuple #[.int .i64 3, .bool false, .int .i64 0]) ∧ Below w.heap.size w w' from chleft_any 2)))
  have HS7 := Lib.hid (stp16 1 3 false (Lib.hid (show ∀ w, Calls Try.prog 16 #[.int .i64 1] w fun e w' => e = .returned (.tuple #[.int .i64 3, .bool false, .int .i64 0]) ∧ Below w.heap.size w w' from chabove_any 1)))
  have HS8 := Lib.hid (stp16 3 1 true (Lib.hid (show ∀ w, Calls Try.prog 16 #[.int .i64 3] w fun e w' => e = .returned (.tuple #[.int .i64 1, .bool true, .int .i64 0]) ∧ Below w.heap.size w w' from chabove_any 3)))
  have hb0 : Box (w.alloc (.cells #[.int .i64 0, .int .i64 0, .int .i64 0, .int .i64 3, .int .i64 1, .int .i64 1, .int .i64 6, .int .i64 2, .int .i64 1, .int .i64 13, .int .i64 3, .int .i64 2] 34)) w.heap.size 34 #[.int .i64 0, .int .i64 0, .int .i64 0, .int .i64 3, .int .i64 1, .int .i64 1, .int .i64 6, .int .i64 2, .int .i64 1, .int .i64 13, .int .i64 3, .int .i64 2] := Box.new w 34 _
  have hl0 : Below w.heap.size w (w.alloc (.cells #[.int .i64 0, .int .i64 0, .int .i64 0, .int .i64 3, .int .i64 1, .int .i64 1, .int .i64 6, .int .i64 2, .int .i64 1, .int .i64 13, .int .i64 3, .int .i64 2] 34)) := (Below.refl _ w).alloc (Nat.le_refl _) _
  have BX := Lib.hid hb0
  have BL := Lib.hid hl0
  clear hb0 hl0
  go_enter Try.func6, Try.ntmps6
  go_wp2_with (fail)
  go_loopw [28] (fun i wr => ∃ j : Nat, j ≤ 4 ∧ i = .int .i64 j ∧ Box wr w.heap.size 34 #[.int .i64 0, .int .i64 0, .int .i64 0, .int .i64 3, .int .i64 1, .int .i64 1, .int .i64 6, .int .i64 2, .int .i64 1, .int .i64 13, .int .i64 3, .int .i64 2] ∧ Below w.heap.size w wr) (fun i _ => 4 - (intOf i).toNat)
  case atStart => exact ⟨0, by omega, rfl, BX.out, BL.out⟩
  case round =>
    obtain ⟨j, hj, rfl, hx, hB⟩ := hrel
    have B0 := Lib.hid hB
    have X0 := Lib.hid hx
    have hlt : w.heap.size < wr.heap.size := hx.lt
    have hj' : j = 0 ∨ j = 1 ∨ j = 2 ∨ j = 3 ∨ j = 4 := by omega
    clear hB BX BL hj
    rcases hj' with rfl | rfl | rfl | rfl | rfl
    · have c0 : wr.cell? ⟨w.heap.size, 0, none⟩ = some (.int .i64 0) := by simpa using hx.cell 0
      have c1 : wr.cell? ⟨w.heap.size, 1, none⟩ = some (.int .i64 0) := by simpa using hx.cell 1
      have c2 : wr.cell? ⟨w.heap.size, 2, none⟩ = some (.int .i64 0) := by simpa using hx.cell 2
      clear hx
      have d0 := Box.new wr 34 #[.int .i64 0, .int .i64 0, .int .i64 0]
      have D0 := Lib.hid d0
      have X1 := Lib.hid (X0.out.alloc (.cells #[.int .i64 0, .int .i64 0, .int .i64 0] 34))
      have hl1 : Below wr.heap.size wr (wr.alloc (.cells #[.int .i64 0, .int .i64 0, .int .i64 0] 34)) := (Below.refl _ wr).alloc (Nat.le_refl _) _
      have L1 := Lib.hid (B0.out.trans (hl1.mono B0.out.size))
      clear hl1 d0
      go_wp2_with (fail)
      refine (HA0.out _).mono ?_
      rintro e w1 ⟨rfl, b1⟩
      have e0 := D0.out.below b1 (by simp)
      have f0 := e0.cell 0
      have f1 := e0.cell 1
      have f2 := e0.cell 2
      simp only [List.getElem?_toArray, List.getElem?_cons_zero, List.getElem?_cons_succ] at f0 f1 f2
      have D1 := Lib.hid e0
      have X2 := Lib.hid (X1.out.below b1 (by simp; omega))
      have L2 := Lib.hid (L1.out.trans (b1.mono L1.out.size))
      have hlt1 : wr.heap.size < w1.heap.size := e0.lt
      clear b1 e0
      go_wp2_with (fail)
      refine (HB0'.out _).mono ?_
      rintro e w2 ⟨rfl, b1⟩
      have e0 := D1.out.below b1 hlt1
      have g0 := e0.cell 0
      have g1 := e0.cell 1
      have g2 := e0.cell 2
      simp only [List.getElem?_toArray, List.getElem?_cons_zero, List.getElem?_cons_succ] at g0 g1 g2
      have X3 := Lib.hid (X2.out.below b1 (by omega))
      have L3 := Lib.hid (L2.out.trans (b1.mono L2.out.size))
      clear b1 e0 f0 f1 f2 c0 c1 c2
      go_wp2_with (fail)
      go_roundw
      case rel => exact ⟨0 + 1, by omega, by go_num, X3.out, L3.out⟩
      case measure => simp [intOf]
    · have c0 : wr.cell? ⟨w.heap.size, 3, none⟩ = some (.int .i64 3) := by simpa using hx.cell 3
      have c1 : wr.cell? ⟨w.heap.size, 4, none⟩ = some (.int .i64 1) := by simpa using hx.cell 4
      have c2 : wr.cell? ⟨w.heap.size, 5, none⟩ = some (.int .i64 1) := by simpa using hx.cell 5
      clear hx
      have d0 := Box.new wr 34 #[.int .i64 3, .int .i64 1, .int .i64 1]
      have D0 := Lib.hid d0
      have X1 := Lib.hid (X0.out.alloc (.cells #[.int .i64 3, .int .i64 1, .int .i64 1] 34))
      have hl1 : Below wr.heap.size wr (wr.alloc (.cells #[.int .i64 3, .int .i64 1, .int .i64 1] 34)) := (Below.refl _ wr).alloc (Nat.le_refl _) _
      have L1 := Lib.hid (B0.out.trans (hl1.mono B0.out.size))
      clear hl1 d0
      go_wp2_with (fail)
      refine (HA1.out _).mono ?_
      rintro e w1 ⟨rfl, b1⟩
      have e0 := D0.out.below b1 (by simp)
      have f0 := e0.cell 0
      have f1 := e0.cell 1
      have f2 := e0.cell 2
      simp only [List.getElem?_toArray, List.getElem?_cons_zero, List.getElem?_cons_succ] at f0 f1 f2
      have D1 := Lib.hid e0
      have X2 := Lib.hid (X1.out.below b1 (by simp; omega))
      have L2 := Lib.hid (L1.out.trans (b1.mono L1.out.size))
      have hlt1 : wr.heap.size < w1.heap.size := e0.lt
      clear b1 e0
      go_wp2_with (fail)
      refine (HB1'.out _).mono ?_
      rintro e w2 ⟨rfl, b1⟩
      have e0 := D1.out.below b1 hlt1
      have g0 := e0.cell 0
      have g1 := e0.cell 1
      have g2 := e0.cell 2
      simp only [List.getElem?_toArray, List.getElem?_cons_zero, List.getElem?_cons_succ] at g0 g1 g2
      have X3 := Lib.hid (X2.out.below b1 (by omega))
      have L3 := Lib.hid (L2.out.trans (b1.mono L2.out.size))
      clear b1 e0 f0 f1 f2 c0 c1 c2
      go_wp2_with (fail)
      go_roundw
      case rel => exact ⟨1 + 1, by omega, by go_num, X3.out, L3.out⟩
      case measure => simp [intOf]
    · have c0 : wr.cell? ⟨w.heap.size, 6, none⟩ = some (.int .i64 6) := by simpa using hx.cell 6
      have c1 : wr.cell? ⟨w.heap.size, 7, none⟩ = some (.int .i64 2) := by simpa using hx.cell 7
      have c2 : wr.cell? ⟨w.heap.size, 8, none⟩ = some (.int .i64 1) := by simpa using hx.cell 8
      clear hx
      have d0 := Box.new wr 34 #[.int .i64 6, .int .i64 2, .int .i64 1]
      have D0 := Lib.hid d0
      have X1 := Lib.hid (X0.out.alloc (.cells #[.int .i64 6, .int .i64 2, .int .i64 1] 34))
      have hl1 : Below wr.heap.size wr (wr.alloc (.cells #[.int .i64 6, .int .i64 2, .int .i64 1] 34)) := (Below.refl _ wr).alloc (Nat.le_refl _) _
      have L1 := Lib.hid (B0.out.trans (hl1.mono B0.out.size))
      clear hl1 d0
      go_wp2_with (fail)
      refine (HA2.out _).mono ?_
      rintro e w1 ⟨rfl, b1⟩
      have e0 := D0.out.below b1 (by simp)
      have f0 := e0.cell 0
      have f1 := e0.cell 1
      have f2 := e0.cell 2
      simp only [List.getElem?_toArray, List.getElem?_cons_zero, List.getElem?_cons_succ] at f0 f1 f2
      have D1 := Lib.hid e0
      have X2 := Lib.hid (X1.out.below b1 (by simp; omega))
      have L2 := Lib.hid (L1.out.trans (b1.mono L1.out.size))
      have hlt1 : wr.heap.size < w1.heap.size := e0.lt
      clear b1 e0
      go_wp2_with (fail)
      refine (HB2'.out _).mono ?_
      rintro e w2 ⟨rfl, b1⟩
      have e0 := D1.out.below b1 hlt1
      have g0 := e0.cell 0
      have g1 := e0.cell 1
      have g2 := e0.cell 2
      simp only [List.getElem?_toArray, List.getElem?_cons_zero, List.getElem?_cons_succ] at g0 g1 g2
      have X3 := Lib.hid (X2.out.below b1 (by omega))
      have L3 := Lib.hid (L2.out.trans (b1.mono L2.out.size))
      clear b1 e0 f0 f1 f2 c0 c1 c2
      go_wp2_with (fail)
      go_roundw
      case rel => exact ⟨2 + 1, by omega, by go_num, X3.out, L3.out⟩
      case measure => simp [intOf]
    · have c0 : wr.cell? ⟨w.heap.size, 9, none⟩ = some (.int .i64 13) := by simpa using hx.cell 9
      have c1 : wr.cell? ⟨w.heap.size, 10, none⟩ = some (.int .i64 3) := by simpa using hx.cell 10
      have c2 : wr.cell? ⟨w.heap.size, 11, none⟩ = some (.int .i64 2) := by simpa using hx.cell 11
      clear hx
      have d0 := Box.new wr 34 #[.int .i64 13, .int .i64 3, .int .i64 2]
      have D0 := Lib.hid d0
      have X1 := Lib.hid (X0.out.alloc (.cells #[.int .i64 13, .int .i64 3, .int .i64 2] 34))
      have hl1 : Below wr.heap.size wr (wr.alloc (.cells #[.int .i64 13, .int .i64 3, .int .i64 2] 34)) := (Below.refl _ wr).alloc (Nat.le_refl _) _
      have L1 := Lib.hid (B0.out.trans (hl1.mono B0.out.size))
      clear hl1 d0
      go_wp2_with (fail)
      refine (HA3.out _).mono ?_
      rintro e w1 ⟨rfl, b1⟩
      have e0 := D0.out.below b1 (by simp)
      have f0 := e0.cell 0
      have f1 := e0.cell 1
      have f2 := e0.cell 2
      simp only [List.getElem?_toArray, List.getElem?_cons_zero, List.getElem?_cons_succ] at f0 f1 f2
      have D1 := Lib.hid e0
      have X2 := Lib.hid (X1.out.below b1 (by simp; omega))
      have L2 := Lib.hid (L1.out.trans (b1.mono L1.out.size))
      have hlt1 : wr.heap.size < w1.heap.size := e0.lt
      clear b1 e0
      go_wp2_with (fail)
      refine (HB3'.out _).mono ?_
      rintro e w2 ⟨rfl, b1⟩
      have e0 := D1.out.below b1 hlt1
      have g0 := e0.cell 0
      have g1 := e0.cell 1
      have g2 := e0.cell 2
      simp only [List.getElem?_toArray, List.getElem?_cons_zero, List.getElem?_cons_succ] at g0 g1 g2
      have X3 := Lib.hid (X2.out.below b1 (by omega))
      have L3 := Lib.hid (L2.out.trans (b1.mono L2.out.size))
      clear b1 e0 f0 f1 f2 c0 c1 c2
      go_wp2_with (fail)
      go_roundw
      case rel => exact ⟨3 + 1, by omega, by go_num, X3.out, L3.out⟩
      case measure => simp [intOf]
    · clear hx
      go_wp2_with (fail)
      refine (HA16.out _).mono ?_
      rintro e w1 ⟨rfl, b1⟩
      have B1 := Lib.hid (B0.out.trans (b1.mono B0.out.size))
      clear b1
      go_wp2_with (fail)
      refine (HB4.out _).mono ?_
      rintro e w2 ⟨rfl, b1⟩
      have B2 := Lib.hid (B1.out.trans (b1.mono B1.out.size))
      clear b1
      have S0 := Lib.hid B2.out
      go_wp2_with (first
        | (go_at_call 19; have hx := S8; clear hx; refine (HS8.out _).mono ?_; rintro e v8 ⟨rfl, b1⟩; have S9 := Lib.hid (S8.out.trans (b1.mono S8.out.size)); clear b1)
        | (go_at_call 19; have hx := S7; clear hx; refine (HS7.out _).mono ?_; rintro e v7 ⟨rfl, b1⟩; have S8 := Lib.hid (S7.out.trans (b1.mono S7.out.size)); clear b1)
        | (go_at_call 19; have hx := S6; clear hx; refine (HS6.out _).mono ?_; rintro e v6 ⟨rfl, b1⟩; have S7 := Lib.hid (S6.out.trans (b1.mono S6.out.size)); clear b1)
        | (go_at_call 19; have hx := S5; clear hx; refine (HS5.out _).mono ?_; rintro e v5 ⟨rfl, b1⟩; have S6 := Lib.hid (S5.out.trans (b1.mono S5.out.size)); clear b1)
        | (go_at_call 19; have hx := S4; clear hx; refine (HS4.out _).mono ?_; rintro e v4 ⟨rfl, b1⟩; have S5 := Lib.hid (S4.out.trans (b1.mono S4.out.size)); clear b1)
        | (go_at_call 19; have hx := S3; clear hx; refine (HS3.out _).mono ?_; rintro e v3 ⟨rfl, b1⟩; have S4 := Lib.hid (S3.out.trans (b1.mono S3.out.size)); clear b1)
        | (go_at_call 19; have hx := S2; clear hx; refine (HS2.out _).mono ?_; rintro e v2 ⟨rfl, b1⟩; have S3 := Lib.hid (S2.out.trans (b1.mono S2.out.size)); clear b1)
        | (go_at_call 19; have hx := S1; clear hx; refine (HS1.out _).mono ?_; rintro e v1 ⟨rfl, b1⟩; have S2 := Lib.hid (S1.out.trans (b1.mono S1.out.size)); clear b1)
        | (go_at_call 19; have hx := S0; clear hx; refine (HS0.out _).mono ?_; rintro e v0 ⟨rfl, b1⟩; have S1 := Lib.hid (S0.out.trans (b1.mono S0.out.size)); clear b1))
      have S9' := Lib.hid (S9.out.alloc S9.out.size (.cells #[.int .i64 5, .int .i64 0, .int .i64 4, .int .i64 4, .int .i64 1, .int .i64 4, .int .i64 0, .int .i64 4, .int .i64 (-1), .int .i64 0, .int .i64 5, .int .i64 3, .int .i64 4, .int .i64 4, .int .i64 (-1), .int .i64 5, .int .i64 5, .int .i64 4, .int .i64 (-1), .int .i64 (-1)] 40))
      have hb9 : Box (v8.alloc (.cells #[.int .i64 5, .int .i64 0, .int .i64 4, .int .i64 4, .int .i64 1, .int .i64 4, .int .i64 0, .int .i64 4, .int .i64 (-1), .int .i64 0, .int .i64 5, .int .i64 3, .int .i64 4, .int .i64 4, .int .i64 (-1), .int .i64 5, .int .i64 5, .int .i64 4, .int .i64 (-1), .int .i64 (-1)] 40)) v8.heap.size 40 #[.int .i64 5, .int .i64 0, .int .i64 4, .int .i64 4, .int .i64 1, .int .i64 4, .int .i64 0, .int .i64 4, .int .i64 (-1), .int .i64 0, .int .i64 5, .int .i64 3, .int .i64 4, .int .i64 4, .int .i64 (-1), .int .i64 5, .int .i64 5, .int .i64 4, .int .i64 (-1), .int .i64 (-1)] := Box.new v8 40 _
      have X9 := Lib.hid hb9
      have Z9 := Lib.hid S9.out.size
      clear hb9
      go_loopw [134] (fun i wr => ∃ j : Nat, j ≤ 4 ∧ i = .int .i64 j ∧ Box wr v8.heap.size 40 #[.int .i64 5, .int .i64 0, .int .i64 4, .int .i64 4, .int .i64 1, .int .i64 4, .int .i64 0, .int .i64 4, .int .i64 (-1), .int .i64 0, .int .i64 5, .int .i64 3, .int .i64 4, .int .i64 4, .int .i64 (-1), .int .i64 5, .int .i64 5, .int .i64 4, .int .i64 (-1), .int .i64 (-1)] ∧ Below w.heap.size w wr) (fun i _ => 4 - (intOf i).toNat)
      case atStart => exact ⟨0, by omega, rfl, X9.out, S9'.out⟩
      case round =>
        obtain ⟨j, hj, rfl, hx, hB⟩ := hrel
        rename_i wq _ _
        have B0 := Lib.hid hB
        have X0 := Lib.hid hx
        have hlt : v8.heap.size < wr.heap.size := hx.lt
        have hj' : j = 0 ∨ j = 1 ∨ j = 2 ∨ j = 3 ∨ j = 4 := by omega
        clear hB X9 S9' hj
        rcases hj' with rfl | rfl | rfl | rfl | rfl
        · skip
          have c0 : wr.cell? ⟨v8.heap.size, 0, none⟩ = some (.int .i64 5) := by simpa using hx.cell 0
          have c1 : wr.cell? ⟨v8.heap.size, 1, none⟩ = some (.int .i64 0) := by simpa using hx.cell 1
          have c2 : wr.cell? ⟨v8.heap.size, 2, none⟩ = some (.int .i64 4) := by simpa using hx.cell 2
          have c3 : wr.cell? ⟨v8.heap.size, 3, none⟩ = some (.int .i64 4) := by simpa using hx.cell 3
          have c4 : wr.cell? ⟨v8.heap.size, 4, none⟩ = some (.int .i64 1) := by simpa using hx.cell 4
          clear hx
          have X1 := Lib.hid (X0.out.alloc (.cells #[.int .i64 5, .int .i64 0, .int .i64 4, .int .i64 4, .int .i64 1] 40))
          have hl1 : Below wr.heap.size wr (wr.alloc (.cells #[.int .i64 5, .int .i64 0, .int .i64 4, .int .i64 4, .int .i64 1] 40)) := (Below.refl _ wr).alloc (Nat.le_refl _) _
          have L1 := Lib.hid (B0.out.trans (hl1.mono B0.out.size))
          clear hl1
          go_wp2_with (go_at_call 9; refine (HN0'.out _).mono ?_; rintro e w1 ⟨rfl, rfl⟩)
          go_roundw
          case rel => exact ⟨0 + 1, by omega, by go_num, X1.out, L1.out⟩
          case measure => simp [intOf]
        · skip
          have c0 : wr.cell? ⟨v8.heap.size, 5, none⟩ = some (.int .i64 4) := by simpa using hx.cell 5
          have c1 : wr.cell? ⟨v8.heap.size, 6, none⟩ = some (.int .i64 0) := by simpa using hx.cell 6
          have c2 : wr.cell? ⟨v8.heap.size, 7, none⟩ = some (.int .i64 4) := by simpa using hx.cell 7
          have c3 : wr.cell? ⟨v8.heap.size, 8, none⟩ = some (.int .i64 (-1)) := by simpa using hx.cell 8
          have c4 : wr.cell? ⟨v8.heap.size, 9, none⟩ = some (.int .i64 0) := by simpa using hx.cell 9
          clear hx
          have X1 := Lib.hid (X0.out.alloc (.cells #[.int .i64 4, .int .i64 0, .int .i64 4, .int .i64 (-1), .int .i64 0] 40))
          have hl1 : Below wr.heap.size wr (wr.alloc (.cells #[.int .i64 4, .int .i64 0, .int .i64 4, .int .i64 (-1), .int .i64 0] 40)) := (Below.refl _ wr).alloc (Nat.le_refl _) _
          have L1 := Lib.hid (B0.out.trans (hl1.mono B0.out.size))
          clear hl1
          go_wp2_with (go_at_call 9; refine (HN1'.out _).mono ?_; rintro e w1 ⟨rfl, rfl⟩)
          go_roundw
          case rel => exact ⟨1 + 1, by omega, by go_num, X1.out, L1.out⟩
          case measure => simp [intOf]
        · skip
          have c0 : wr.cell? ⟨v8.heap.size, 10, none⟩ = some (.int .i64 5) := by simpa using hx.cell 10
          have c1 : wr.cell? ⟨v8.heap.size, 11, none⟩ = some (.int .i64 3) := by simpa using hx.cell 11
          have c2 : wr.cell? ⟨v8.heap.size, 12, none⟩ = some (.int .i64 4) := by simpa using hx.cell 12
          have c3 : wr.cell? ⟨v8.heap.size, 13, none⟩ = some (.int .i64 4) := by simpa using hx.cell 13
          have c4 : wr.cell? ⟨v8.heap.size, 14, none⟩ = some (.int .i64 (-1)) := by simpa using hx.cell 14
          clear hx
          have X1 := Lib.hid (X0.out.alloc (.cells #[.int .i64 5, .int .i64 3, .int .i64 4, .int .i64 4, .int .i64 (-1)] 40))
          have hl1 : Below wr.heap.size wr (wr.alloc (.cells #[.int .i64 5, .int .i64 3, .int .i64 4, .int .i64 4, .int .i64 (-1)] 40)) := (Below.refl _ wr).alloc (Nat.le_refl _) _
          have L1 := Lib.hid (B0.out.trans (hl1.mono B0.out.size))
          clear hl1
          go_wp2_with (go_at_call 9; refine (HN2'.out _).mono ?_; rintro e w1 ⟨rfl, rfl⟩)
          go_roundw
          case rel => exact ⟨2 + 1, by omega, by go_num, X1.out, L1.out⟩
          case measure => simp [intOf]
        · skip
          have c0 : wr.cell? ⟨v8.heap.size, 15, none⟩ = some (.int .i64 5) := by simpa using hx.cell 15
          have c1 : wr.cell? ⟨v8.heap.size, 16, none⟩ = some (.int .i64 5) := by simpa using hx.cell 16
          have c2 : wr.cell? ⟨v8.heap.size, 17, none⟩ = some (.int .i64 4) := by simpa using hx.cell 17
          have c3 : wr.cell? ⟨v8.heap.size, 18, none⟩ = some (.int .i64 (-1)) := by simpa using hx.cell 18
          have c4 : wr.cell? ⟨v8.heap.size, 19, none⟩ = some (.int .i64 (-1)) := by simpa using hx.cell 19
          clear hx
          have X1 := Lib.hid (X0.out.alloc (.cells #[.int .i64 5, .int .i64 5, .int .i64 4, .int .i64 (-1), .int .i64 (-1)] 40))
          have hl1 : Below wr.heap.size wr (wr.alloc (.cells #[.int .i64 5, .int .i64 5, .int .i64 4, .int .i64 (-1), .int .i64 (-1)] 40)) := (Below.refl _ wr).alloc (Nat.le_refl _) _
          have L1 := Lib.hid (B0.out.trans (hl1.mono B0.out.size))
          clear hl1
          go_wp2_with (go_at_call 9; refine (HN3'.out _).mono ?_; rintro e w1 ⟨rfl, rfl⟩)
          go_roundw
          case rel => exact ⟨3 + 1, by omega, by go_num, X1.out, L1.out⟩
          case measure => simp [intOf]
        · clear hx
          go_wp2_with (first
            | (go_at_call 9; refine (HN2.out _).mono ?_; rintro e w1 ⟨rfl, rfl⟩)
            | (go_at_call 11; refine (alive_yes _).mono ?_; rintro e w9 ⟨rfl, b1⟩; have Y1 := Lib.hid (B0.out.trans (b1.mono B0.out.size)); clear b1))
          go_ret
          exact ⟨rfl, Y1.out⟩

end Go.Proofs.Ytmackljhomameaa
