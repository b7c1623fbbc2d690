/- The walks of PlaceInverse, case by case. -/
import Derived.Test.YtmackljhomameaaRef
namespace Go.Proofs.Ytmackljhomameaa
open Go.RowKit

set_option maxRecDepth 100000 in
set_option maxHeartbeats 4000000 in
theorem invNegIn (k x y n V5 V6 V7 V8 : Int) (b5 b6 b7 b8 : Bool) (k0 : ¬ 0 ≤ k) (x0 : 0 ≤ x) (x1 : x < 4) (y0 : 0 ≤ y) (y1 : y < 4)
    (H1 : Hid (∀ w, Calls Try.prog 17 #[.int .i64 k] w fun e w' => e = .returned (.tuple #[.int .i64 0, .int .i64 0, .int .i64 3]) ∧ Below w.heap.size w w'))
    (H2 : Hid (∀ w, Calls Try.prog 18 #[.int .i64 0, .int .i64 0] w fun e w' => e = .returned (.tuple #[.int .i64 0, .int .i64 0]) ∧ Below w.heap.size w w'))
    (H3 : Hid (∀ w, Calls Try.prog 18 #[.int .i64 x, .int .i64 y] w fun e w' => e = .returned (.tuple #[.int .i64 n, .int .i64 0]) ∧ Below w.heap.size w w'))
    (H4 : Hid (∀ w, Calls Try.prog 17 #[.int .i64 n] w fun e w' => e = .returned (.tuple #[.int .i64 x, .int .i64 y, .int .i64 0]) ∧ Below w.heap.size w w'))
    (H5 : Hid (∀ w, Calls Try.prog 13 #[.int .i64 k] w fun e w' => e = .returned (.tuple #[.int .i64 V5, .bool b5, .int .i64 3]) ∧ Below w.heap.size w w'))
    (H6 : Hid (∀ w, Calls Try.prog 14 #[.int .i64 k] w fun e w' => e = .returned (.tuple #[.int .i64 V6, .bool b6, .int .i64 3]) ∧ Below w.heap.size w w'))
    (H7 : Hid (∀ w, Calls Try.prog 15 #[.int .i64 k] w fun e w' => e = .returned (.tuple #[.int .i64 V7, .bool b7, .int .i64 3]) ∧ Below w.heap.size w w'))
    (H8 : Hid (∀ w, Calls Try.prog 16 #[.int .i64 k] w fun e w' => e = .returned (.tuple #[.int .i64 V8, .bool b8, .int .i64 3]) ∧ Below w.heap.size w w'))
    (w : World) :
    Calls Try.prog 8 #[.int .i64 k, .int .i64 x, .int .i64 y] w fun e w' => e = .returned (.bool true) ∧ Below w.heap.size w w' := by
  skip
  go_enter Try.func8, Try.ntmps8
  go_wp2_with (first
    | (go_at_call 17; have hx := B3; clear hx; refine (H4.out _).mono ?_; rintro e w3 ⟨rfl, b1⟩; have B3' := Lib.hid B3.out; clear B3; have B3 := Lib.hid (B3'.out.trans (b1.mono B3'.out.size)); clear b1)
    | (go_at_call 17; refine (H1.out _).mono ?_; rintro e w1 ⟨rfl, b1⟩; have B1 := Lib.hid b1; clear b1)
    | (go_at_call 18; have hx := B2; clear hx; refine (H3.out _).mono ?_; rintro e w3 ⟨rfl, b1⟩; have B3 := Lib.hid (B2.out.trans (b1.mono B2.out.size)); clear b1)
    | (go_at_call 18; refine (H2.out _).mono ?_; rintro e w2 ⟨rfl, b1⟩; have B2 := Lib.hid (B1.out.trans (b1.mono B1.out.size)); clear b1)
    | (go_at_call 13; refine (H5.out _).mono ?_; rintro e w4 ⟨rfl, b1⟩; have B4 := Lib.hid (B3.out.trans (b1.mono B3.out.size)); clear b1)
    | (go_at_call 14; refine (H6.out _).mono ?_; rintro e w5 ⟨rfl, b1⟩; have B5 := Lib.hid (B4.out.trans (b1.mono B4.out.size)); clear b1)
    | (go_at_call 15; refine (H7.out _).mono ?_; rintro e w6 ⟨rfl, b1⟩; have B6 := Lib.hid (B5.out.trans (b1.mono B5.out.size)); clear b1)
    | (go_at_call 16; refine (H8.out _).mono ?_; rintro e w7 ⟨rfl, b1⟩; have B7 := Lib.hid (B6.out.trans (b1.mono B6.out.size)); clear b1)
    | (go_at_call 11; refine (alive_yes _).mono ?_; rintro e w8 ⟨rfl, b1⟩; have B8 := Lib.hid (B7.out.trans (b1.mono B7.out.size)); clear b1))
  go_ret
  exact ⟨rfl, B8.out⟩

set_option maxRecDepth 100000 in
set_option maxHeartbeats 4000000 in
theorem invNegA (k x y V5 V6 V7 V8 : Int) (b5 b6 b7 b8 : Bool) (k0 : ¬ 0 ≤ k) (x0 : ¬ 0 ≤ x)
    (H1 : Hid (∀ w, Calls Try.prog 17 #[.int .i64 k] w fun e w' => e = .returned (.tuple #[.int .i64 0, .int .i64 0, .int .i64 3]) ∧ Below w.heap.size w w'))
    (H2 : Hid (∀ w, Calls Try.prog 18 #[.int .i64 0, .int .i64 0] w fun e w' => e = .returned (.tuple #[.int .i64 0, .int .i64 0]) ∧ Below w.heap.size w w'))
    (H3 : Hid (∀ w, Calls Try.prog 18 #[.int .i64 x, .int .i64 y] w fun e w' => e = .returned (.tuple #[.int .i64 0, .int .i64 3]) ∧ Below w.heap.size w w'))
    (H5 : Hid (∀ w, Calls Try.prog 13 #[.int .i64 k] w fun e w' => e = .returned (.tuple #[.int .i64 V5, .bool b5, .int .i64 3]) ∧ Below w.heap.size w w'))
    (H6 : Hid (∀ w, Calls Try.prog 14 #[.int .i64 k] w fun e w' => e = .returned (.tuple #[.int .i64 V6, .bool b6, .int .i64 3]) ∧ Below w.heap.size w w'))
    (H7 : Hid (∀ w, Calls Try.prog 15 #[.int .i64 k] w fun e w' => e = .returned (.tuple #[.int .i64 V7, .bool b7, .int .i64 3]) ∧ Below w.heap.size w w'))
    (H8 : Hid (∀ w, Calls Try.prog 16 #[.int .i64 k] w fun e w' => e = .returned (.tuple #[.int .i64 V8, .bool b8, .int .i64 3]) ∧ Below w.heap.size w w'))
    (w : World) :
    Calls Try.prog 8 #[.int .i64 k, .int .i64 x, .int .i64 y] w fun e w' => e = .returned (.bool true) ∧ Below w.heap.size w w' := by
  skip
  go_enter Try.func8, Try.ntmps8
  go_wp2_with (first
    | (go_at_call 17; refine (H1.out _).mono ?_; rintro e w1 ⟨rfl, b1⟩; have B1 := Lib.hid b1; clear b1)
    | (go_at_call 18; have hx := B2; clear hx; refine (H3.out _).mono ?_; rintro e w3 ⟨rfl, b1⟩; have B3 := Lib.hid (B2.out.trans (b1.mono B2.out.size)); clear b1)
    | (go_at_call 18; refine (H2.out _).mono ?_; rintro e w2 ⟨rfl, b1⟩; have B2 := Lib.hid (B1.out.trans (b1.mono B1.out.size)); clear b1)
    | (go_at_call 13; refine (H5.out _).mono ?_; rintro e w4 ⟨rfl, b1⟩; have B4 := Lib.hid (B3.out.trans (b1.mono B3.out.size)); clear b1)
    | (go_at_call 14; refine (H6.out _).mono ?_; rintro e w5 ⟨rfl, b1⟩; have B5 := Lib.hid (B4.out.trans (b1.mono B4.out.size)); clear b1)
    | (go_at_call 15; refine (H7.out _).mono ?_; rintro e w6 ⟨rfl, b1⟩; have B6 := Lib.hid (B5.out.trans (b1.mono B5.out.size)); clear b1)
    | (go_at_call 16; refine (H8.out _).mono ?_; rintro e w7 ⟨rfl, b1⟩; have B7 := Lib.hid (B6.out.trans (b1.mono B6.out.size)); clear b1)
    | (go_at_call 11; refine (alive_yes _).mono ?_; rintro e w8 ⟨rfl, b1⟩; have B8 := Lib.hid (B7.out.trans (b1.mono B7.out.size)); clear b1))
  go_ret
  exact ⟨rfl, B8.out⟩

set_option maxRecDepth 100000 in
set_option maxHeartbeats 4000000 in
theorem invNegB (k x y V5 V6 V7 V8 : Int) (b5 b6 b7 b8 : Bool) (k0 : ¬ 0 ≤ k) (x0 : 0 ≤ x) (x1 : ¬ x < 4)
    (H1 : Hid (∀ w, Calls Try.prog 17 #[.int .i64 k] w fun e w' => e = .returned (.tuple #[.int .i64 0, .int .i64 0, .int .i64 3]) ∧ Below w.heap.size w w'))
    (H2 : Hid (∀ w, Calls Try.prog 18 #[.int .i64 0, .int .i64 0] w fun e w' => e = .returned (.tuple #[.int .i64 0, .int .i64 0]) ∧ Below w.heap.size w w'))
    (H3 : Hid (∀ w, Calls Try.prog 18 #[.int .i64 x, .int .i64 y] w fun e w' => e = .returned (.tuple #[.int .i64 0, .int .i64 3]) ∧ Below w.heap.size w w'))
    (H5 : Hid (∀ w, Calls Try.prog 13 #[.int .i64 k] w fun e w' => e = .returned (.tuple #[.int .i64 V5, .bool b5, .int .i64 3]) ∧ Below w.heap.size w w'))
    (H6 : Hid (∀ w, Calls Try.prog 14 #[.int .i64 k] w fun e w' => e = .returned (.tuple #[.int .i64 V6, .bool b6, .int .i64 3]) ∧ Below w.heap.size w w'))
    (H7 : Hid (∀ w, Calls Try.prog 15 #[.int .i64 k] w fun e w' => e = .returned (.tuple #[.int .i64 V7, .bool b7, .int .i64 3]) ∧ Below w.heap.size w w'))
    (H8 : Hid (∀ w, Calls Try.prog 16 #[.int .i64 k] w fun e w' => e = .returned (.tuple #[.int .i64 V8, .bool b8, .int .i64 3]) ∧ Below w.heap.size w w'))
    (w : World) :
    Calls Try.prog 8 #[.int .i64 k, .int .i64 x, .int .i64 y] w fun e w' => e = .returned (.bool true) ∧ Below w.heap.size w w' := by
  skip
  go_enter Try.func8, Try.ntmps8
  go_wp2_with (first
    | (go_at_call 17; refine (H1.out _).mono ?_; rintro e w1 ⟨rfl, b1⟩; have B1 := Lib.hid b1; clear b1)
    | (go_at_call 18; have hx := B2; clear hx; refine (H3.out _).mono ?_; rintro e w3 ⟨rfl, b1⟩; have B3 := Lib.hid (B2.out.trans (b1.mono B2.out.size)); clear b1)
    | (go_at_call 18; refine (H2.out _).mono ?_; rintro e w2 ⟨rfl, b1⟩; have B2 := Lib.hid (B1.out.trans (b1.mono B1.out.size)); clear b1)
    | (go_at_call 13; refine (H5.out _).mono ?_; rintro e w4 ⟨rfl, b1⟩; have B4 := Lib.hid (B3.out.trans (b1.mono B3.out.size)); clear b1)
    | (go_at_call 14; refine (H6.out _).mono ?_; rintro e w5 ⟨rfl, b1⟩; have B5 := Lib.hid (B4.out.trans (b1.mono B4.out.size)); clear b1)
    | (go_at_call 15; refine (H7.out _).mono ?_; rintro e w6 ⟨rfl, b1⟩; have B6 := Lib.hid (B5.out.trans (b1.mono B5.out.size)); clear b1)
    | (go_at_call 16; refine (H8.out _).mono ?_; rintro e w7 ⟨rfl, b1⟩; have B7 := Lib.hid (B6.out.trans (b1.mono B6.out.size)); clear b1)
    | (go_at_call 11; refine (alive_yes _).mono ?_; rintro e w8 ⟨rfl, b1⟩; have B8 := Lib.hid (B7.out.trans (b1.mono B7.out.size)); clear b1))
  go_ret
  exact ⟨rfl, B8.out⟩

set_option maxRecDepth 100000 in
set_option maxHeartbeats 4000000 in
theorem invNegC (k x y V5 V6 V7 V8 : Int) (b5 b6 b7 b8 : Bool) (k0 : ¬ 0 ≤ k) (x0 : 0 ≤ x) (x1 : x < 4) (y0 : ¬ 0 ≤ y)
    (H1 : Hid (∀ w, Calls Try.prog 17 #[.int .i64 k] w fun e w' => e = .returned (.tuple #[.int .i64 0, .int .i64 0, .int .i64 3]) ∧ Below w.heap.size w w'))
    (H2 : Hid (∀ w, Calls Try.prog 18 #[.int .i64 0, .int .i64 0] w fun e w' => e = .returned (.tuple #[.int .i64 0, .int .i64 0]) ∧ Below w.heap.size w w'))
    (H3 : Hid (∀ w, Calls Try.prog 18 #[.int .i64 x, .int .i64 y] w fun e w' => e = .returned (.tuple #[.int .i64 0, .int .i64 3]) ∧ Below w.heap.size w w'))
    (H5 : Hid (∀ w, Calls Try.prog 13 #[.int .i64 k] w fun e w' => e = .returned (.tuple #[.int .i64 V5, .bool b5, .int .i64 3]) ∧ Below w.heap.size w w'))
    (H6 : Hid (∀ w, Calls Try.prog 14 #[.int .i64 k] w fun e w' => e = .returned (.tuple #[.int .i64 V6, .bool b6, .int .i64 3]) ∧ Below w.heap.size w w'))
    (H7 : Hid (∀ w, Calls Try.prog 15 #[.int .i64 k] w fun e w' => e = .returned (.tuple #[.int .i64 V7, .bool b7, .int .i64 3]) ∧ Below w.heap.size w w'))
    (H8 : Hid (∀ w, Calls Try.prog 16 #[.int .i64 k] w fun e w' => e = .returned (.tuple #[.int .i64 V8, .bool b8, .int .i64 3]) ∧ Below w.heap.size w w'))
    (w : World) :
    Calls Try.prog 8 #[.int .i64 k, .int .i64 x, .int .i64 y] w fun e w' => e = .returned (.bool true) ∧ Below w.heap.size w w' := by
  skip
  go_enter Try.func8, Try.ntmps8
  go_wp2_with (first
    | (go_at_call 17; refine (H1.out _).mono ?_; rintro e w1 ⟨rfl, b1⟩; have B1 := Lib.hid b1; clear b1)
    | (go_at_call 18; have hx := B2; clear hx; refine (H3.out _).mono ?_; rintro e w3 ⟨rfl, b1⟩; have B3 := Lib.hid (B2.out.trans (b1.mono B2.out.size)); clear b1)
    | (go_at_call 18; refine (H2.out _).mono ?_; rintro e w2 ⟨rfl, b1⟩; have B2 := Lib.hid (B1.out.trans (b1.mono B1.out.size)); clear b1)
    | (go_at_call 13; refine (H5.out _).mono ?_; rintro e w4 ⟨rfl, b1⟩; have B4 := Lib.hid (B3.out.trans (b1.mono B3.out.size)); clear b1)
    | (go_at_call 14; refine (H6.out _).mono ?_; rintro e w5 ⟨rfl, b1⟩; have B5 := Lib.hid (B4.out.trans (b1.mono B4.out.size)); clear b1)
    | (go_at_call 15; refine (H7.out _).mono ?_; rintro e w6 ⟨rfl, b1⟩; have B6 := Lib.hid (B5.out.trans (b1.mono B5.out.size)); clear b1)
    | (go_at_call 16; refine (H8.out _).mono ?_; rintro e w7 ⟨rfl, b1⟩; have B7 := Lib.hid (B6.out.trans (b1.mono B6.out.size)); clear b1)
    | (go_at_call 11; refine (alive_yes _).mono ?_; rintro e w8 ⟨rfl, b1⟩; have B8 := Lib.hid (B7.out.trans (b1.mono B7.out.size)); clear b1))
  go_ret
  exact ⟨rfl, B8.out⟩

set_option maxRecDepth 100000 in
set_option maxHeartbeats 4000000 in
theorem invNegD (k x y V5 V6 V7 V8 : Int) (b5 b6 b7 b8 : Bool) (k0 : ¬ 0 ≤ k) (x0 : 0 ≤ x) (x1 : x < 4) (y0 : 0 ≤ y) (y1 : ¬ y < 4)
    (H1 : Hid (∀ w, Calls Try.prog 17 #[.int .i64 k] w fun e w' => e = .returned (.tuple #[.int .i64 0, .int .i64 0, .int .i64 3]) ∧ Below w.heap.size w w'))
    (H2 : Hid (∀ w, Calls Try.prog 18 #[.int .i64 0, .int .i64 0] w fun e w' => e = .returned (.tuple #[.int .i64 0, .int .i64 0]) ∧ Below w.heap.size w w'))
    (H3 : Hid (∀ w, Calls Try.prog 18 #[.int .i64 x, .int .i64 y] w fun e w' => e = .returned (.tuple #[.int .i64 0, .int .i64 3]) ∧ Below w.heap.size w w'))
    (H5 : Hid (∀ w, Calls Try.prog 13 #[.int .i64 k] w fun e w' => e = .returned (.tuple #[.int .i64 V5, .bool b5, .int .i64 3]) ∧ Below w.heap.size w w'))
    (H6 : Hid (∀ w, Calls Try.prog 14 #[.int .i64 k] w fun e w' => e = .returned (.tuple #[.int .i64 V6, .bool b6, .int .i64 3]) ∧ Below w.heap.size w w'))
    (H7 : Hid (∀ w, Calls Try.prog 15 #[.int .i64 k] w fun e w' => e = .returned (.tuple #[.int .i64 V7, .bool b7, .int .i64 3]) ∧ Below w.heap.size w w'))
    (H8 : Hid (∀ w, Calls Try.prog 16 #[.int .i64 k] w fun e w' => e = .returned (.tuple #[.int .i64 V8, .bool b8, .int .i64 3]) ∧ Below w.heap.size w w'))
    (w : World) :
    Calls Try.prog 8 #[.int .i64 k, .int .i64 x, .int .i64 y] w fun e w' => e = .returned (.bool true) ∧ Below w.heap.size w w' := by
  skip
  go_enter Try.func8, Try.ntmps8
  go_wp2_with (first
    | (go_at_call 17; refine (H1.out _).mono ?_; rintro e w1 ⟨rfl, b1⟩; have B1 := Lib.hid b1; clear b1)
    | (go_at_call 18; have hx := B2; clear hx; refine (H3.out _).mono ?_; rintro e w3 ⟨rfl, b1⟩; have B3 := Lib.hid (B2.out.trans (b1.mono B2.out.size)); clear b1)
    | (go_at_call 18; refine (H2.out _).mono ?_; rintro e w2 ⟨rfl, b1⟩; have B2 := Lib.hid (B1.out.trans (b1.mono B1.out.size)); clear b1)
    | (go_at_call 13; refine (H5.out _).mono ?_; rintro e w4 ⟨rfl, b1⟩; have B4 := Lib.hid (B3.out.trans (b1.mono B3.out.size)); clear b1)
    | (go_at_call 14; refine (H6.out _).mono ?_; rintro e w5 ⟨rfl, b1⟩; have B5 := Lib.hid (B4.out.trans (b1.mono B4.out.size)); clear b1)
    | (go_at_call 15; refine (H7.out _).mono ?_; rintro e w6 ⟨rfl, b1⟩; have B6 := Lib.hid (B5.out.trans (b1.mono B5.out.size)); clear b1)
    | (go_at_call 16; refine (H8.out _).mono ?_; rintro e w7 ⟨rfl, b1⟩; have B7 := Lib.hid (B6.out.trans (b1.mono B6.out.size)); clear b1)
    | (go_at_call 11; refine (alive_yes _).mono ?_; rintro e w8 ⟨rfl, b1⟩; have B8 := Lib.hid (B7.out.trans (b1.mono B7.out.size)); clear b1))
  go_ret
  exact ⟨rfl, B8.out⟩

set_option maxRecDepth 100000 in
set_option maxHeartbeats 4000000 in
theorem invBigIn (k x y n V5 V6 V7 V8 : Int) (b5 b6 b7 b8 : Bool) (k0 : 0 ≤ k) (k1 : ¬ k < 16) (x0 : 0 ≤ x) (x1 : x < 4) (y0 : 0 ≤ y) (y1 : y < 4)
    (H1 : Hid (∀ w, Calls Try.prog 17 #[.int .i64 k] w fun e w' => e = .returned (.tuple #[.int .i64 0, .int .i64 0, .int .i64 3]) ∧ Below w.heap.size w w'))
    (H2 : Hid (∀ w, Calls Try.prog 18 #[.int .i64 0, .int .i64 0] w fun e w' => e = .returned (.tuple #[.int .i64 0, .int .i64 0]) ∧ Below w.heap.size w w'))
    (H3 : Hid (∀ w, Calls Try.prog 18 #[.int .i64 x, .int .i64 y] w fun e w' => e = .returned (.tuple #[.int .i64 n, .int .i64 0]) ∧ Below w.heap.size w w'))
    (H4 : Hid (∀ w, Calls Try.prog 17 #[.int .i64 n] w fun e w' => e = .returned (.tuple #[.int .i64 x, .int .i64 y, .int .i64 0]) ∧ Below w.heap.size w w'))
    (H5 : Hid (∀ w, Calls Try.prog 13 #[.int .i64 k] w fun e w' => e = .returned (.tuple #[.int .i64 V5, .bool b5, .int .i64 3]) ∧ Below w.heap.size w w'))
    (H6 : Hid (∀ w, Calls Try.prog 14 #[.int .i64 k] w fun e w' => e = .returned (.tuple #[.int .i64 V6, .bool b6, .int .i64 3]) ∧ Below w.heap.size w w'))
    (H7 : Hid (∀ w, Calls Try.prog 15 #[.int .i64 k] w fun e w' => e = .returned (.tuple #[.int .i64 V7, .bool b7, .int .i64 3]) ∧ Below w.heap.size w w'))
    (H8 : Hid (∀ w, Calls Try.prog 16 #[.int .i64 k] w fun e w' => e = .returned (.tuple #[.int .i64 V8, .bool b8, .int .i64 3]) ∧ Below w.heap.size w w'))
    (w : World) :
    Calls Try.prog 8 #[.int .i64 k, .int .i64 x, .int .i64 y] w fun e w' => e = .returned (.bool true) ∧ Below w.heap.size w w' := by
  have d4 : decide (k < 4) = false := by simp; omega
  go_enter Try.func8, Try.ntmps8
  go_wp2_with (first
    | (go_at_call 17; have hx := B3; clear hx; refine (H4.out _).mono ?_; rintro e w3 ⟨rfl, b1⟩; have B3' := Lib.hid B3.out; clear B3; have B3 := Lib.hid (B3'.out.trans (b1.mono B3'.out.size)); clear b1)
    | (go_at_call 17; refine (H1.out _).mono ?_; rintro e w1 ⟨rfl, b1⟩; have B1 := Lib.hid b1; clear b1)
    | (go_at_call 18; have hx := B2; clear hx; refine (H3.out _).mono ?_; rintro e w3 ⟨rfl, b1⟩; have B3 := Lib.hid (B2.out.trans (b1.mono B2.out.size)); clear b1)
    | (go_at_call 18; refine (H2.out _).mono ?_; rintro e w2 ⟨rfl, b1⟩; have B2 := Lib.hid (B1.out.trans (b1.mono B1.out.size)); clear b1)
    | (go_at_call 13; refine (H5.out _).mono ?_; rintro e w4 ⟨rfl, b1⟩; have B4 := Lib.hid (B3.out.trans (b1.mono B3.out.size)); clear b1)
    | (go_at_call 14; refine (H6.out _).mono ?_; rintro e w5 ⟨rfl, b1⟩; have B5 := Lib.hid (B4.out.trans (b1.mono B4.out.size)); clear b1)
    | (go_at_call 15; refine (H7.out _).mono ?_; rintro e w6 ⟨rfl, b1⟩; have B6 := Lib.hid (B5.out.trans (b1.mono B5.out.size)); clear b1)
    | (go_at_call 16; refine (H8.out _).mono ?_; rintro e w7 ⟨rfl, b1⟩; have B7 := Lib.hid (B6.out.trans (b1.mono B6.out.size)); clear b1)
    | (go_at_call 11; refine (alive_yes _).mono ?_; rintro e w8 ⟨rfl, b1⟩; have B8 := Lib.hid (B7.out.trans (b1.mono B7.out.size)); clear b1))
  go_ret
  exact ⟨rfl, B8.out⟩

set_option maxRecDepth 100000 in
set_option maxHeartbeats 4000000 in
theorem invBigA (k x y V5 V6 V7 V8 : Int) (b5 b6 b7 b8 : Bool) (k0 : 0 ≤ k) (k1 : ¬ k < 16) (x0 : ¬ 0 ≤ x)
    (H1 : Hid (∀ w, Calls Try.prog 17 #[.int .i64 k] w fun e w' => e = .returned (.tuple #[.int .i64 0, .int .i64 0, .int .i64 3]) ∧ Below w.heap.size w w'))
    (H2 : Hid (∀ w, Calls Try.prog 18 #[.int .i64 0, .int .i64 0] w fun e w' => e = .returned (.tuple #[.int .i64 0, .int .i64 0]) ∧ Below w.heap.size w w'))
    (H3 : Hid (∀ w, Calls Try.prog 18 #[.int .i64 x, .int .i64 y] w fun e w' => e = .returned (.tuple #[.int .i64 0, .int .i64 3]) ∧ Below w.heap.size w w'))
    (H5 : Hid (∀ w, Calls Try.prog 13 #[.int .i64 k] w fun e w' => e = .returned (.tuple #[.int .i64 V5, .bool b5, .int .i64 3]) ∧ Below w.heap.size w w'))
    (H6 : Hid (∀ w, Calls Try.prog 14 #[.int .i64 k] w fun e w' => e = .returned (.tuple #[.int .i64 V6, .bool b6, .int .i64 3]) ∧ Below w.heap.size w w'))
    (H7 : Hid (∀ w, Calls Try.prog 15 #[.int .i64 k] w fun e w' => e = .returned (.tuple #[.int .i64 V7, .bool b7, .int .i64 3]) ∧ Below w.heap.size w w'))
    (H8 : Hid (∀ w, Calls Try.prog 16 #[.int .i64 k] w fun e w' => e = .returned (.tuple #[.int .i64 V8, .bool b8, .int .i64 3]) ∧ Below w.heap.size w w'))
    (w : World) :
    Calls Try.prog 8 #[.int .i64 k, .int .i64 x, .int .i64 y] w fun e w' => e = .returned (.bool true) ∧ Below w.heap.size w w' := by
  have d4 : decide (k < 4) = false := by simp; omega
  go_enter Try.func8, Try.ntmps8
  go_wp2_with (first
    | (go_at_call 17; refine (H1.out _).mono ?_; rintro e w1 ⟨rfl, b1⟩; have B1 := Lib.hid b1; clear b1)
    | (go_at_call 18; have hx := B2; clear hx; refine (H3.out _).mono ?_; rintro e w3 ⟨rfl, b1⟩; have B3 := Lib.hid (B2.out.trans (b1.mono B2.out.size)); clear b1)
    | (go_at_call 18; refine (H2.out _).mono ?_; rintro e w2 ⟨rfl, b1⟩; have B2 := Lib.hid (B1.out.trans (b1.mono B1.out.size)); clear b1)
    | (go_at_call 13; refine (H5.out _).mono ?_; rintro e w4 ⟨rfl, b1⟩; have B4 := Lib.hid (B3.out.trans (b1.mono B3.out.size)); clear b1)
    | (go_at_call 14; refine (H6.out _).mono ?_; rintro e w5 ⟨rfl, b1⟩; have B5 := Lib.hid (B4.out.trans (b1.mono B4.out.size)); clear b1)
    | (go_at_call 15; refine (H7.out _).mono ?_; rintro e w6 ⟨rfl, b1⟩; have B6 := Lib.hid (B5.out.trans (b1.mono B5.out.size)); clear b1)
    | (go_at_call 16; refine (H8.out _).mono ?_; rintro e w7 ⟨rfl, b1⟩; have B7 := Lib.hid (B6.out.trans (b1.mono B6.out.size)); clear b1)
    | (go_at_call 11; refine (alive_yes _).mono ?_; rintro e w8 ⟨rfl, b1⟩; have B8 := Lib.hid (B7.out.trans (b1.mono B7.out.size)); clear b1))
  go_ret
  exact ⟨rfl, B8.out⟩

set_option maxRecDepth 100000 in
set_option maxHeartbeats 4000000 in
theorem invBigB (k x y V5 V6 V7 V8 : Int) (b5 b6 b7 b8 : Bool) (k0 : 0 ≤ k) (k1 : ¬ k < 16) (x0 : 0 ≤ x) (x1 : ¬ x < 4)
    (H1 : Hid (∀ w, Calls Try.prog 17 #[.int .i64 k] w fun e w' => e = .returned (.tuple #[.int .i64 0, .int .i64 0, .int .i64 3]) ∧ Below w.heap.size w w'))
    (H2 : Hid (∀ w, Calls Try.prog 18 #[.int .i64 0, .int .i64 0] w fun e w' => e = .returned (.tuple #[.int .i64 0, .int .i64 0]) ∧ Below w.heap.size w w'))
    (H3 : Hid (∀ w, Calls Try.prog 18 #[.int .i64 x, .int .i64 y] w fun e w' => e = .returned (.tuple #[.int .i64 0, .int .i64 3]) ∧ Below w.heap.size w w'))
    (H5 : Hid (∀ w, Calls Try.prog 13 #[.int .i64 k] w fun e w' => e = .returned (.tuple #[.int .i64 V5, .bool b5, .int .i64 3]) ∧ Below w.heap.size w w'))
    (H6 : Hid (∀ w, Calls Try.prog 14 #[.int .i64 k] w fun e w' => e = .returned (.tuple #[.int .i64 V6, .bool b6, .int .i64 3]) ∧ Below w.heap.size w w'))
    (H7 : Hid (∀ w, Calls Try.prog 15 #[.int .i64 k] w fun e w' => e = .returned (.tuple #[.int .i64 V7, .bool b7, .int .i64 3]) ∧ Below w.heap.size w w'))
    (H8 : Hid (∀ w, Calls Try.prog 16 #[.int .i64 k] w fun e w' => e = .returned (.tuple #[.int .i64 V8, .bool b8, .int .i64 3]) ∧ Below w.heap.size w w'))
    (w : World) :
    Calls Try.prog 8 #[.int .i64 k, .int .i64 x, .int .i64 y] w fun e w' => e = .returned (.bool true) ∧ Below w.heap.size w w' := by
  have d4 : decide (k < 4) = false := by simp; omega
  go_enter Try.func8, Try.ntmps8
  go_wp2_with (first
    | (go_at_call 17; refine (H1.out _).mono ?_; rintro e w1 ⟨rfl, b1⟩; have B1 := Lib.hid b1; clear b1)
    | (go_at_call 18; have hx := B2; clear hx; refine (H3.out _).mono ?_; rintro e w3 ⟨rfl, b1⟩; have B3 := Lib.hid (B2.out.trans (b1.mono B2.out.size)); clear b1)
    | (go_at_call 18; refine (H2.out _).mono ?_; rintro e w2 ⟨rfl, b1⟩; have B2 := Lib.hid (B1.out.trans (b1.mono B1.out.size)); clear b1)
    | (go_at_call 13; refine (H5.out _).mono ?_; rintro e w4 ⟨rfl, b1⟩; have B4 := Lib.hid (B3.out.trans (b1.mono B3.out.size)); clear b1)
    | (go_at_call 14; refine (H6.out _).mono ?_; rintro e w5 ⟨rfl, b1⟩; have B5 := Lib.hid (B4.out.trans (b1.mono B4.out.size)); clear b1)
    | (go_at_call 15; refine (H7.out _).mono ?_; rintro e w6 ⟨rfl, b1⟩; have B6 := Lib.hid (B5.out.trans (b1.mono B5.out.size)); clear b1)
    | (go_at_call 16; refine (H8.out _).mono ?_; rintro e w7 ⟨rfl, b1⟩; have B7 := Lib.hid (B6.out.trans (b1.mono B6.out.size)); clear b1)
    | (go_at_call 11; refine (alive_yes _).mono ?_; rintro e w8 ⟨rfl, b1⟩; have B8 := Lib.hid (B7.out.trans (b1.mono B7.out.size)); clear b1))
  go_ret
  exact ⟨rfl, B8.out⟩

set_option maxRecDepth 100000 in
set_option maxHeartbeats 4000000 in
theorem invBigC (k x y V5 V6 V7 V8 : Int) (b5 b6 b7 b8 : Bool) (k0 : 0 ≤ k) (k1 : ¬ k < 16) (x0 : 0 ≤ x) (x1 : x < 4) (y0 : ¬ 0 ≤ y)
    (H1 : Hid (∀ w, Calls Try.prog 17 #[.int .i64 k] w fun e w' => e = .returned (.tuple #[.int .i64 0, .int .i64 0, .int .i64 3]) ∧ Below w.heap.size w w'))
    (H2 : Hid (∀ w, Calls Try.prog 18 #[.int .i64 0, .int .i64 0] w fun e w' => e = .returned (.tuple #[.int .i64 0, .int .i64 0]) ∧ Below w.heap.size w w'))
    (H3 : Hid (∀ w, Calls Try.prog 18 #[.int .i64 x, .int .i64 y] w fun e w' => e = .returned (.tuple #[.int .i64 0, .int .i64 3]) ∧ Below w.heap.size w w'))
    (H5 : Hid (∀ w, Calls Try.prog 13 #[.int .i64 k] w fun e w' => e = .returned (.tuple #[.int .i64 V5, .bool b5, .int .i64 3]) ∧ Below w.heap.size w w'))
    (H6 : Hid (∀ w, Calls Try.prog 14 #[.int .i64 k] w fun e w' => e = .returned (.tuple #[.int .i64 V6, .bool b6, .int .i64 3]) ∧ Below w.heap.size w w'))
    (H7 : Hid (∀ w, Calls Try.prog 15 #[.int .i64 k] w fun e w' => e = .returned (.tuple #[.int .i64 V7, .bool b7, .int .i64 3]) ∧ Below w.heap.size w w'))
    (H8 : Hid (∀ w, Calls Try.prog 16 #[.int .i64 k] w fun e w' => e = .returned (.tuple #[.int .i64 V8, .bool b8, .int .i64 3]) ∧ Below w.heap.size w w'))
    (w : World) :
    Calls Try.prog 8 #[.int .i64 k, .int .i64 x, .int .i64 y] w fun e w' => e = .returned (.bool true) ∧ Below w.heap.size w w' := by
  have d4 : decide (k < 4) = false := by simp; omega
  go_enter Try.func8, Try.ntmps8
  go_wp2_with (first
    | (go_at_call 17; refine (H1.out _).mono ?_; rintro e w1 ⟨rfl, b1⟩; have B1 := Lib.hid b1; clear b1)
    | (go_at_call 18; have hx := B2; clear hx; refine (H3.out _).mono ?_; rintro e w3 ⟨rfl, b1⟩; have B3 := Lib.hid (B2.out.trans (b1.mono B2.out.size)); clear b1)
    | (go_at_call 18; refine (H2.out _).mono ?_; rintro e w2 ⟨rfl, b1⟩; have B2 := Lib.hid (B1.out.trans (b1.mono B1.out.size)); clear b1)
    | (go_at_call 13; refine (H5.out _).mono ?_; rintro e w4 ⟨rfl, b1⟩; have B4 := Lib.hid (B3.out.trans (b1.mono B3.out.size)); clear b1)
    | (go_at_call 14; refine (H6.out _).mono ?_; rintro e w5 ⟨rfl, b1⟩; have B5 := Lib.hid (B4.out.trans (b1.mono B4.out.size)); clear b1)
    | (go_at_call 15; refine (H7.out _).mono ?_; rintro e w6 ⟨rfl, b1⟩; have B6 := Lib.hid (B5.out.trans (b1.mono B5.out.size)); clear b1)
    | (go_at_call 16; refine (H8.out _).mono ?_; rintro e w7 ⟨rfl, b1⟩; have B7 := Lib.hid (B6.out.trans (b1.mono B6.out.size)); clear b1)
    | (go_at_call 11; refine (alive_yes _).mono ?_; rintro e w8 ⟨rfl, b1⟩; have B8 := Lib.hid (B7.out.trans (b1.mono B7.out.size)); clear b1))
  go_ret
  exact ⟨rfl, B8.out⟩

set_option maxRecDepth 100000 in
set_option maxHeartbeats 4000000 in
theorem invBigD (k x y V5 V6 V7 V8 : Int) (b5 b6 b7 b8 : Bool) (k0 : 0 ≤ k) (k1 : ¬ k < 16) (x0 : 0 ≤ x) (x1 : x < 4) (y0 : 0 ≤ y) (y1 : ¬ y < 4)
    (H1 : Hid (∀ w, Calls Try.prog 17 #[.int .i64 k] w fun e w' => e = .returned (.tuple #[.int .i64 0, .int .i64 0, .int .i64 3]) ∧ Below w.heap.size w w'))
    (H2 : Hid (∀ w, Calls Try.prog 18 #[.int .i64 0, .int .i64 0] w fun e w' => e = .returned (.tuple #[.int .i64 0, .int .i64 0]) ∧ Below w.heap.size w w'))
    (H3 : Hid (∀ w, Calls Try.prog 18 #[.int .i64 x, .int .i64 y] w fun e w' => e = .returned (.tuple #[.int .i64 0, .int .i64 3]) ∧ Below w.heap.size w w'))
    (H5 : Hid (∀ w, Calls Try.prog 13 #[.int .i64 k] w fun e w' => e = .returned (.tuple #[.int .i64 V5, .bool b5, .int .i64 3]) ∧ Below w.heap.size w w'))
    (H6 : Hid (∀ w, Calls Try.prog 14 #[.int .i64 k] w fun e w' => e = .returned (.tuple #[.int .i64 V6, .bool b6, .int .i64 3]) ∧ Below w.heap.size w w'))
    (H7 : Hid (∀ w, Calls Try.prog 15 #[.int .i64 k] w fun e w' => e = .returned (.tuple #[.int .i64 V7, .bool b7, .int .i64 3]) ∧ Below w.heap.size w w'))
    (H8 : Hid (∀ w, Calls Try.prog 16 #[.int .i64 k] w fun e w' => e = .returned (.tuple #[.int .i64 V8, .bool b8, .int .i64 3]) ∧ Below w.heap.size w w'))
    (w : World) :
    Calls Try.prog 8 #[.int .i64 k, .int .i64 x, .int .i64 y] w fun e w' => e = .returned (.bool true) ∧ Below w.heap.size w w' := by
  have d4 : decide (k < 4) = false := by simp; omega
  go_enter Try.func8, Try.ntmps8
  go_wp2_with (first
    | (go_at_call 17; refine (H1.out _).mono ?_; rintro e w1 ⟨rfl, b1⟩; have B1 := Lib.hid b1; clear b1)
    | (go_at_call 18; have hx := B2; clear hx; refine (H3.out _).mono ?_; rintro e w3 ⟨rfl, b1⟩; have B3 := Lib.hid (B2.out.trans (b1.mono B2.out.size)); clear b1)
    | (go_at_call 18; refine (H2.out _).mono ?_; rintro e w2 ⟨rfl, b1⟩; have B2 := Lib.hid (B1.out.trans (b1.mono B1.out.size)); clear b1)
    | (go_at_call 13; refine (H5.out _).mono ?_; rintro e w4 ⟨rfl, b1⟩; have B4 := Lib.hid (B3.out.trans (b1.mono B3.out.size)); clear b1)
    | (go_at_call 14; refine (H6.out _).mono ?_; rintro e w5 ⟨rfl, b1⟩; have B5 := Lib.hid (B4.out.trans (b1.mono B4.out.size)); clear b1)
    | (go_at_call 15; refine (H7.out _).mono ?_; rintro e w6 ⟨rfl, b1⟩; have B6 := Lib.hid (B5.out.trans (b1.mono B5.out.size)); clear b1)
    | (go_at_call 16; refine (H8.out _).mono ?_; rintro e w7 ⟨rfl, b1⟩; have B7 := Lib.hid (B6.out.trans (b1.mono B6.out.size)); clear b1)
    | (go_at_call 11; refine (alive_yes _).mono ?_; rintro e w8 ⟨rfl, b1⟩; have B8 := Lib.hid (B7.out.trans (b1.mono B7.out.size)); clear b1))
  go_ret
  exact ⟨rfl, B8.out⟩

set_option maxRecDepth 100000 in
set_option maxHeartbeats 4000000 in
theorem invSmallIn (k x y a b n V5 V6 V7 V8 : Int) (b5 b6 b7 b8 : Bool) (k0 : 0 ≤ k) (k1 : k < 16) (k2 : k < 4) (x0 : 0 ≤ x) (x1 : x < 4) (y0 : 0 ≤ y) (y1 : y < 4)
    (H1 : Hid (∀ w, Calls Try.prog 17 #[.int .i64 k] w fun e w' => e = .returned (.tuple #[.int .i64 a, .int .i64 b, .int .i64 0]) ∧ Below w.heap.size w w'))
    (H2 : Hid (∀ w, Calls Try.prog 18 #[.int .i64 a, .int .i64 b] w fun e w' => e = .returned (.tuple #[.int .i64 k, .int .i64 0]) ∧ Below w.heap.size w w'))
    (H3 : Hid (∀ w, Calls Try.prog 18 #[.int .i64 x, .int .i64 y] w fun e w' => e = .returned (.tuple #[.int .i64 n, .int .i64 0]) ∧ Below w.heap.size w w'))
    (H4 : Hid (∀ w, Calls Try.prog 17 #[.int .i64 n] w fun e w' => e = .returned (.tuple #[.int .i64 x, .int .i64 y, .int .i64 0]) ∧ Below w.heap.size w w'))
    (H5 : Hid (∀ w, Calls Try.prog 13 #[.int .i64 k] w fun e w' => e = .returned (.tuple #[.int .i64 V5, .bool b5, .int .i64 0]) ∧ Below w.heap.size w w'))
    (H6 : Hid (∀ w, Calls Try.prog 14 #[.int .i64 k] w fun e w' => e = .returned (.tuple #[.int .i64 V6, .bool b6, .int .i64 0]) ∧ Below w.heap.size w w'))
    (H7 : Hid (∀ w, Calls Try.prog 15 #[.int .i64 k] w fun e w' => e = .returned (.tuple #[.int .i64 V7, .bool b7, .int .i64 0]) ∧ Below w.heap.size w w'))
    (H8 : Hid (∀ w, Calls Try.prog 16 #[.int .i64 k] w fun e w' => e = .returned (.tuple #[.int .i64 V8, .bool b8, .int .i64 0]) ∧ Below w.heap.size w w'))
    (w : World) :
    Calls Try.prog 8 #[.int .i64 k, .int .i64 x, .int .i64 y] w fun e w' => e = .returned (.bool true) ∧ Below w.heap.size w w' := by
  skip
  go_enter Try.func8, Try.ntmps8
  go_wp2_with (first
    | (go_at_call 17; have hx := B3; clear hx; refine (H4.out _).mono ?_; rintro e w3 ⟨rfl, b1⟩; have B3' := Lib.hid B3.out; clear B3; have B3 := Lib.hid (B3'.out.trans (b1.mono B3'.out.size)); clear b1)
    | (go_at_call 17; refine (H1.out _).mono ?_; rintro e w1 ⟨rfl, b1⟩; have B1 := Lib.hid b1; clear b1)
    | (go_at_call 18; have hx := B2; clear hx; refine (H3.out _).mono ?_; rintro e w3 ⟨rfl, b1⟩; have B3 := Lib.hid (B2.out.trans (b1.mono B2.out.size)); clear b1)
    | (go_at_call 18; refine (H2.out _).mono ?_; rintro e w2 ⟨rfl, b1⟩; have B2 := Lib.hid (B1.out.trans (b1.mono B1.out.size)); clear b1)
    | (go_at_call 13; refine (H5.out _).mono ?_; rintro e w4 ⟨rfl, b1⟩; have B4 := Lib.hid (B3.out.trans (b1.mono B3.out.size)); clear b1)
    | (go_at_call 14; refine (H6.out _).mono ?_; rintro e w5 ⟨rfl, b1⟩; have B5 := Lib.hid (B4.out.trans (b1.mono B4.out.size)); clear b1)
    | (go_at_call 15; refine (H7.out _).mono ?_; rintro e w6 ⟨rfl, b1⟩; have B6 := Lib.hid (B5.out.trans (b1.mono B5.out.size)); clear b1)
    | (go_at_call 16; refine (H8.out _).mono ?_; rintro e w7 ⟨rfl, b1⟩; have B7 := Lib.hid (B6.out.trans (b1.mono B6.out.size)); clear b1)
    | (go_at_call 11; refine (alive_yes _).mono ?_; rintro e w8 ⟨rfl, b1⟩; have B8 := Lib.hid (B7.out.trans (b1.mono B7.out.size)); clear b1))
  go_ret
  exact ⟨rfl, B8.out⟩

set_option maxRecDepth 100000 in
set_option maxHeartbeats 4000000 in
theorem invSmallA (k x y a b V5 V6 V7 V8 : Int) (b5 b6 b7 b8 : Bool) (k0 : 0 ≤ k) (k1 : k < 16) (k2 : k < 4) (x0 : ¬ 0 ≤ x)
    (H1 : Hid (∀ w, Calls Try.prog 17 #[.int .i64 k] w fun e w' => e = .returned (.tuple #[.int .i64 a, .int .i64 b, .int .i64 0]) ∧ Below w.heap.size w w'))
    (H2 : Hid (∀ w, Calls Try.prog 18 #[.int .i64 a, .int .i64 b] w fun e w' => e = .returned (.tuple #[.int .i64 k, .int .i64 0]) ∧ Below w.heap.size w w'))
    (H3 : Hid (∀ w, Calls Try.prog 18 #[.int .i64 x, .int .i64 y] w fun e w' => e = .returned (.tuple #[.int .i64 0, .int .i64 3]) ∧ Below w.heap.size w w'))
    (H5 : Hid (∀ w, Calls Try.prog 13 #[.int .i64 k] w fun e w' => e = .returned (.tuple #[.int .i64 V5, .bool b5, .int .i64 0]) ∧ Below w.heap.size w w'))
    (H6 : Hid (∀ w, Calls Try.prog 14 #[.int .i64 k] w fun e w' => e = .returned (.tuple #[.int .i64 V6, .bool b6, .int .i64 0]) ∧ Below w.heap.size w w'))
    (H7 : Hid (∀ w, Calls Try.prog 15 #[.int .i64 k] w fun e w' => e = .returned (.tuple #[.int .i64 V7, .bool b7, .int .i64 0]) ∧ Below w.heap.size w w'))
    (H8 : Hid (∀ w, Calls Try.prog 16 #[.int .i64 k] w fun e w' => e = .returned (.tuple #[.int .i64 V8, .bool b8, .int .i64 0]) ∧ Below w.heap.size w w'))
    (w : World) :
    Calls Try.prog 8 #[.int .i64 k, .int .i64 x, .int .i64 y] w fun e w' => e = .returned (.bool true) ∧ Below w.heap.size w w' := by
  skip
  go_enter Try.func8, Try.ntmps8
  go_wp2_with (first
    | (go_at_call 17; refine (H1.out _).mono ?_; rintro e w1 ⟨rfl, b1⟩; have B1 := Lib.hid b1; clear b1)
    | (go_at_call 18; have hx := B2; clear hx; refine (H3.out _).mono ?_; rintro e w3 ⟨rfl, b1⟩; have B3 := Lib.hid (B2.out.trans (b1.mono B2.out.size)); clear b1)
    | (go_at_call 18; refine (H2.out _).mono ?_; rintro e w2 ⟨rfl, b1⟩; have B2 := Lib.hid (B1.out.trans (b1.mono B1.out.size)); clear b1)
    | (go_at_call 13; refine (H5.out _).mono ?_; rintro e w4 ⟨rfl, b1⟩; have B4 := Lib.hid (B3.out.trans (b1.mono B3.out.size)); clear b1)
    | (go_at_call 14; refine (H6.out _).mono ?_; rintro e w5 ⟨rfl, b1⟩; have B5 := Lib.hid (B4.out.trans (b1.mono B4.out.size)); clear b1)
    | (go_at_call 15; refine (H7.out _).mono ?_; rintro e w6 ⟨rfl, b1⟩; have B6 := Lib.hid (B5.out.trans (b1.mono B5.out.size)); clear b1)
    | (go_at_call 16; refine (H8.out _).mono ?_; rintro e w7 ⟨rfl, b1⟩; have B7 := Lib.hid (B6.out.trans (b1.mono B6.out.size)); clear b1)
    | (go_at_call 11; refine (alive_yes _).mono ?_; rintro e w8 ⟨rfl, b1⟩; have B8 := Lib.hid (B7.out.trans (b1.mono B7.out.size)); clear b1))
  go_ret
  exact ⟨rfl, B8.out⟩

set_option maxRecDepth 100000 in
set_option maxHeartbeats 4000000 in
theorem invSmallB (k x y a b V5 V6 V7 V8 : Int) (b5 b6 b7 b8 : Bool) (k0 : 0 ≤ k) (k1 : k < 16) (k2 : k < 4) (x0 : 0 ≤ x) (x1 : ¬ x < 4)
    (H1 : Hid (∀ w, Calls Try.prog 17 #[.int .i64 k] w fun e w' => e = .returned (.tuple #[.int .i64 a, .int .i64 b, .int .i64 0]) ∧ Below w.heap.size w w'))
    (H2 : Hid (∀ w, Calls Try.prog 18 #[.int .i64 a, .int .i64 b] w fun e w' => e = .returned (.tuple #[.int .i64 k, .int .i64 0]) ∧ Below w.heap.size w w'))
    (H3 : Hid (∀ w, Calls Try.prog 18 #[.int .i64 x, .int .i64 y] w fun e w' => e = .returned (.tuple #[.int .i64 0, .int .i64 3]) ∧ Below w.heap.size w w'))
    (H5 : Hid (∀ w, Calls Try.prog 13 #[.int .i64 k] w fun e w' => e = .returned (.tuple #[.int .i64 V5, .bool b5, .int .i64 0]) ∧ Below w.heap.size w w'))
    (H6 : Hid (∀ w, Calls Try.prog 14 #[.int .i64 k] w fun e w' => e = .returned (.tuple #[.int .i64 V6, .bool b6, .int .i64 0]) ∧ Below w.heap.size w w'))
    (H7 : Hid (∀ w, Calls Try.prog 15 #[.int .i64 k] w fun e w' => e = .returned (.tuple #[.int .i64 V7, .bool b7, .int .i64 0]) ∧ Below w.heap.size w w'))
    (H8 : Hid (∀ w, Calls Try.prog 16 #[.int .i64 k] w fun e w' => e = .returned (.tuple #[.int .i64 V8, .bool b8, .int .i64 0]) ∧ Below w.heap.size w w'))
    (w : World) :
    Calls Try.prog 8 #[.int .i64 k, .int .i64 x, .int .i64 y] w fun e w' => e = .returned (.bool true) ∧ Below w.heap.size w w' := by
  skip
  go_enter Try.func8, Try.ntmps8
  go_wp2_with (first
    | (go_at_call 17; refine (H1.out _).mono ?_; rintro e w1 ⟨rfl, b1⟩; have B1 := Lib.hid b1; clear b1)
    | (go_at_call 18; have hx := B2; clear hx; refine (H3.out _).mono ?_; rintro e w3 ⟨rfl, b1⟩; have B3 := Lib.hid (B2.out.trans (b1.mono B2.out.size)); clear b1)
    | (go_at_call 18; refine (H2.out _).mono ?_; rintro e w2 ⟨rfl, b1⟩; have B2 := Lib.hid (B1.out.trans (b1.mono B1.out.size)); clear b1)
    | (go_at_call 13; refine (H5.out _).mono ?_; rintro e w4 ⟨rfl, b1⟩; have B4 := Lib.hid (B3.out.trans (b1.mono B3.out.size)); clear b1)
    | (go_at_call 14; refine (H6.out _).mono ?_; rintro e w5 ⟨rfl, b1⟩; have B5 := Lib.hid (B4.out.trans (b1.mono B4.out.size)); clear b1)
    | (go_at_call 15; refine (H7.out _).mono ?_; rintro e w6 ⟨rfl, b1⟩; have B6 := Lib.hid (B5.out.trans (b1.mono B5.out.size)); clear b1)
    | (go_at_call 16; refine (H8.out _).mono ?_; rintro e w7 ⟨rfl, b1⟩; have B7 := Lib.hid (B6.out.trans (b1.mono B6.out.size)); clear b1)
    | (go_at_call 11; refine (alive_yes _).mono ?_; rintro e w8 ⟨rfl, b1⟩; have B8 := Lib.hid (B7.out.trans (b1.mono B7.out.size)); clear b1))
  go_ret
  exact ⟨rfl, B8.out⟩

set_option maxRecDepth 100000 in
set_option maxHeartbeats 4000000 in
theorem invSmallC (k x y a b V5 V6 V7 V8 : Int) (b5 b6 b7 b8 : Bool) (k0 : 0 ≤ k) (k1 : k < 16) (k2 : k < 4) (x0 : 0 ≤ x) (x1 : x < 4) (y0 : ¬ 0 ≤ y)
    (H1 : Hid (∀ w, Calls Try.prog 17 #[.int .i64 k] w fun e w' => e = .returned (.tuple #[.int .i64 a, .int .i64 b, .int .i64 0]) ∧ Below w.heap.size w w'))
    (H2 : Hid (∀ w, Calls Try.prog 18 #[.int .i64 a, .int .i64 b] w fun e w' => e = .returned (.tuple #[.int .i64 k, .int .i64 0]) ∧ Below w.heap.size w w'))
    (H3 : Hid (∀ w, Calls Try.prog 18 #[.int .i64 x, .int .i64 y] w fun e w' => e = .returned (.tuple #[.int .i64 0, .int .i64 3]) ∧ Below w.heap.size w w'))
    (H5 : Hid (∀ w, Calls Try.prog 13 #[.int .i64 k] w fun e w' => e = .returned (.tuple #[.int .i64 V5, .bool b5, .int .i64 0]) ∧ Below w.heap.size w w'))
    (H6 : Hid (∀ w, Calls Try.prog 14 #[.int .i64 k] w fun e w' => e = .returned (.tuple #[.int .i64 V6, .bool b6, .int .i64 0]) ∧ Below w.heap.size w w'))
    (H7 : Hid (∀ w, Calls Try.prog 15 #[.int .i64 k] w fun e w' => e = .returned (.tuple #[.int .i64 V7, .bool b7, .int .i64 0]) ∧ Below w.heap.size w w'))
    (H8 : Hid (∀ w, Calls Try.prog 16 #[.int .i64 k] w fun e w' => e = .returned (.tuple #[.int .i64 V8, .bool b8, .int .i64 0]) ∧ Below w.heap.size w w'))
    (w : World) :
    Calls Try.prog 8 #[.int .i64 k, .int .i64 x, .int .i64 y] w fun e w' => e = .returned (.bool true) ∧ Below w.heap.size w w' := by
  skip
  go_enter Try.func8, Try.ntmps8
  go_wp2_with (first
    | (go_at_call 17; refine (H1.out _).mono ?_; rintro e w1 ⟨rfl, b1⟩; have B1 := Lib.hid b1; clear b1)
    | (go_at_call 18; have hx := B2; clear hx; refine (H3.out _).mono ?_; rintro e w3 ⟨rfl, b1⟩; have B3 := Lib.hid (B2.out.trans (b1.mono B2.out.size)); clear b1)
    | (go_at_call 18; refine (H2.out _).mono ?_; rintro e w2 ⟨rfl, b1⟩; have B2 := Lib.hid (B1.out.trans (b1.mono B1.out.size)); clear b1)
    | (go_at_call 13; refine (H5.out _).mono ?_; rintro e w4 ⟨rfl, b1⟩; have B4 := Lib.hid (B3.out.trans (b1.mono B3.out.size)); clear b1)
    | (go_at_call 14; refine (H6.out _).mono ?_; rintro e w5 ⟨rfl, b1⟩; have B5 := Lib.hid (B4.out.trans (b1.mono B4.out.size)); clear b1)
    | (go_at_call 15; refine (H7.out _).mono ?_; rintro e w6 ⟨rfl, b1⟩; have B6 := Lib.hid (B5.out.trans (b1.mono B5.out.size)); clear b1)
    | (go_at_call 16; refine (H8.out _).mono ?_; rintro e w7 ⟨rfl, b1⟩; have B7 := Lib.hid (B6.out.trans (b1.mono B6.out.size)); clear b1)
    | (go_at_call 11; refine (alive_yes _).mono ?_; rintro e w8 ⟨rfl, b1⟩; have B8 := Lib.hid (B7.out.trans (b1.mono B7.out.size)); clear b1))
  go_ret
  exact ⟨rfl, B8.out⟩

set_option maxRecDepth 100000 in
set_option maxHeartbeats 4000000 in
theorem invSmallD (k x y a b V5 V6 V7 V8 : Int) (b5 b6 b7 b8 : Bool) (k0 : 0 ≤ k) (k1 : k < 16) (k2 : k < 4) (x0 : 0 ≤ x) (x1 : x < 4) (y0 : 0 ≤ y) (y1 : ¬ y < 4)
    (H1 : Hid (∀ w, Calls Try.prog 17 #[.int .i64 k] w fun e w' => e = .returned (.tuple #[.int .i64 a, .int .i64 b, .int .i64 0]) ∧ Below w.heap.size w w'))
    (H2 : Hid (∀ w, Calls Try.prog 18 #[.int .i64 a, .int .i64 b] w fun e w' => e = .returned (.tuple #[.int .i64 k, .int .i64 0]) ∧ Below w.heap.size w w'))
    (H3 : Hid (∀ w, Calls Try.prog 18 #[.int .i64 x, .int .i64 y] w fun e w' => e = .returned (.tuple #[.int .i64 0, .int .i64 3]) ∧ Below w.heap.size w w'))
    (H5 : Hid (∀ w, Calls Try.prog 13 #[.int .i64 k] w fun e w' => e = .returned (.tuple #[.int .i64 V5, .bool b5, .int .i64 0]) ∧ Below w.heap.size w w'))
    (H6 : Hid (∀ w, Calls Try.prog 14 #[.int .i64 k] w fun e w' => e = .returned (.tuple #[.int .i64 V6, .bool b6, .int .i64 0]) ∧ Below w.heap.size w w'))
    (H7 : Hid (∀ w, Calls Try.prog 15 #[.int .i64 k] w fun e w' => e = .returned (.tuple #[.int .i64 V7, .bool b7, .int .i64 0]) ∧ Below w.heap.size w w'))
    (H8 : Hid (∀ w, Calls Try.prog 16 #[.int .i64 k] w fun e w' => e = .returned (.tuple #[.int .i64 V8, .bool b8, .int .i64 0]) ∧ Below w.heap.size w w'))
    (w : World) :
    Calls Try.prog 8 #[.int .i64 k, .int .i64 x, .int .i64 y] w fun e w' => e = .returned (.bool true) ∧ Below w.heap.size w w' := by
  skip
  go_enter Try.func8, Try.ntmps8
  go_wp2_with (first
    | (go_at_call 17; refine (H1.out _).mono ?_; rintro e w1 ⟨rfl, b1⟩; have B1 := Lib.hid b1; clear b1)
    | (go_at_call 18; have hx := B2; clear hx; refine (H3.out _).mono ?_; rintro e w3 ⟨rfl, b1⟩; have B3 := Lib.hid (B2.out.trans (b1.mono B2.out.size)); clear b1)
    | (go_at_call 18; refine (H2.out _).mono ?_; rintro e w2 ⟨rfl, b1⟩; have B2 := Lib.hid (B1.out.trans (b1.mono B1.out.size)); clear b1)
    | (go_at_call 13; refine (H5.out _).mono ?_; rintro e w4 ⟨rfl, b1⟩; have B4 := Lib.hid (B3.out.trans (b1.mono B3.out.size)); clear b1)
    | (go_at_call 14; refine (H6.out _).mono ?_; rintro e w5 ⟨rfl, b1⟩; have B5 := Lib.hid (B4.out.trans (b1.mono B4.out.size)); clear b1)
    | (go_at_call 15; refine (H7.out _).mono ?_; rintro e w6 ⟨rfl, b1⟩; have B6 := Lib.hid (B5.out.trans (b1.mono B5.out.size)); clear b1)
    | (go_at_call 16; refine (H8.out _).mono ?_; rintro e w7 ⟨rfl, b1⟩; have B7 := Lib.hid (B6.out.trans (b1.mono B6.out.size)); clear b1)
    | (go_at_call 11; refine (alive_yes _).mono ?_; rintro e w8 ⟨rfl, b1⟩; have B8 := Lib.hid (B7.out.trans (b1.mono B7.out.size)); clear b1))
  go_ret
  exact ⟨rfl, B8.out⟩

set_option maxRecDepth 100000 in
set_option maxHeartbeats 4000000 in
theorem invMidIn (k x y a b n V5 V6 V7 V8 : Int) (b5 b6 b7 b8 : Bool) (k0 : 0 ≤ k) (k1 : k < 16) (k2 : ¬ k < 4) (x0 : 0 ≤ x) (x1 : x < 4) (y0 : 0 ≤ y) (y1 : y < 4)
    (H1 : Hid (∀ w, Calls Try.prog 17 #[.int .i64 k] w fun e w' => e = .returned (.tuple #[.int .i64 a, .int .i64 b, .int .i64 0]) ∧ Below w.heap.size w w'))
    (H2 : Hid (∀ w, Calls Try.prog 18 #[.int .i64 a, .int .i64 b] w fun e w' => e = .returned (.tuple #[.int .i64 k, .int .i64 0]) ∧ Below w.heap.size w w'))
    (H3 : Hid (∀ w, Calls Try.prog 18 #[.int .i64 x, .int .i64 y] w fun e w' => e = .returned (.tuple #[.int .i64 n, .int .i64 0]) ∧ Below w.heap.size w w'))
    (H4 : Hid (∀ w, Calls Try.prog 17 #[.int .i64 n] w fun e w' => e = .returned (.tuple #[.int .i64 x, .int .i64 y, .int .i64 0]) ∧ Below w.heap.size w w'))
    (H5 : Hid (∀ w, Calls Try.prog 13 #[.int .i64 k] w fun e w' => e = .returned (.tuple #[.int .i64 V5, .bool b5, .int .i64 0]) ∧ Below w.heap.size w w'))
    (H6 : Hid (∀ w, Calls Try.prog 14 #[.int .i64 k] w fun e w' => e = .returned (.tuple #[.int .i64 V6, .bool b6, .int .i64 0]) ∧ Below w.heap.size w w'))
    (H7 : Hid (∀ w, Calls Try.prog 15 #[.int .i64 k] w fun e w' => e = .returned (.tuple #[.int .i64 V7, .bool b7, .int .i64 3]) ∧ Below w.heap.size w w'))
    (H8 : Hid (∀ w, Calls Try.prog 16 #[.int .i64 k] w fun e w' => e = .returned (.tuple #[.int .i64 V8, .bool b8, .int .i64 3]) ∧ Below w.heap.size w w'))
    (w : World) :
    Calls Try.prog 8 #[.int .i64 k, .int .i64 x, .int .i64 y] w fun e w' => e = .returned (.bool true) ∧ Below w.heap.size w w' := by
  have d4 : decide (k < 4) = false := by simp; omega
  go_enter Try.func8, Try.ntmps8
  go_wp2_with (first
    | (go_at_call 17; have hx := B3; clear hx; refine (H4.out _).mono ?_; rintro e w3 ⟨rfl, b1⟩; have B3' := Lib.hid B3.out; clear B3; have B3 := Lib.hid (B3'.out.trans (b1.mono B3'.out.size)); clear b1)
    | (go_at_call 17; refine (H1.out _).mono ?_; rintro e w1 ⟨rfl, b1⟩; have B1 := Lib.hid b1; clear b1)
    | (go_at_call 18; have hx := B2; clear hx; refine (H3.out _).mono ?_; rintro e w3 ⟨rfl, b1⟩; have B3 := Lib.hid (B2.out.trans (b1.mono B2.out.size)); clear b1)
    | (go_at_call 18; refine (H2.out _).mono ?_; rintro e w2 ⟨rfl, b1⟩; have B2 := Lib.hid (B1.out.trans (b1.mono B1.out.size)); clear b1)
    | (go_at_call 13; refine (H5.out _).mono ?_; rintro e w4 ⟨rfl, b1⟩; have B4 := Lib.hid (B3.out.trans (b1.mono B3.out.size)); clear b1)
    | (go_at_call 14; refine (H6.out _).mono ?_; rintro e w5 ⟨rfl, b1⟩; have B5 := Lib.hid (B4.out.trans (b1.mono B4.out.size)); clear b1)
    | (go_at_call 15; refine (H7.out _).mono ?_; rintro e w6 ⟨rfl, b1⟩; have B6 := Lib.hid (B5.out.trans (b1.mono B5.out.size)); clear b1)
    | (go_at_call 16; refine (H8.out _).mono ?_; rintro e w7 ⟨rfl, b1⟩; have B7 := Lib.hid (B6.out.trans (b1.mono B6.out.size)); clear b1)
    | (go_at_call 11; refine (alive_yes _).mono ?_; rintro e w8 ⟨rfl, b1⟩; have B8 := Lib.hid (B7.out.trans (b1.mono B7.out.size)); clear b1))
  go_ret
  exact ⟨rfl, B8.out⟩

set_option maxRecDepth 100000 in
set_option maxHeartbeats 4000000 in
theorem invMidA (k x y a b V5 V6 V7 V8 : Int) (b5 b6 b7 b8 : Bool) (k0 : 0 ≤ k) (k1 : k < 16) (k2 : ¬ k < 4) (x0 : ¬ 0 ≤ x)
    (H1 : Hid (∀ w, Calls Try.prog 17 #[.int .i64 k] w fun e w' => e = .returned (.tuple #[.int .i64 a, .int .i64 b, .int .i64 0]) ∧ Below w.heap.size w w'))
    (H2 : Hid (∀ w, Calls Try.prog 18 #[.int .i64 a, .int .i64 b] w fun e w' => e = .returned (.tuple #[.int .i64 k, .int .i64 0]) ∧ Below w.heap.size w w'))
    (H3 : Hid (∀ w, Calls Try.prog 18 #[.int .i64 x, .int .i64 y] w fun e w' => e = .returned (.tuple #[.int .i64 0, .int .i64 3]) ∧ Below w.heap.size w w'))
    (H5 : Hid (∀ w, Calls Try.prog 13 #[.int .i64 k] w fun e w' => e = .returned (.tuple #[.int .i64 V5, .bool b5, .int .i64 0]) ∧ Below w.heap.size w w'))
    (H6 : Hid (∀ w, Calls Try.prog 14 #[.int .i64 k] w fun e w' => e = .returned (.tuple #[.int .i64 V6, .bool b6, .int .i64 0]) ∧ Below w.heap.size w w'))
    (H7 : Hid (∀ w, Calls Try.prog 15 #[.int .i64 k] w fun e w' => e = .returned (.tuple #[.int .i64 V7, .bool b7, .int .i64 3]) ∧ Below w.heap.size w w'))
    (H8 : Hid (∀ w, Calls Try.prog 16 #[.int .i64 k] w fun e w' => e = .returned (.tuple #[.int .i64 V8, .bool b8, .int .i64 3]) ∧ Below w.heap.size w w'))
    (w : World) :
    Calls Try.prog 8 #[.int .i64 k, .int .i64 x, .int .i64 y] w fun e w' => e = .returned (.bool true) ∧ Below w.heap.size w w' := by
  have d4 : decide (k < 4) = false := by simp; omega
  go_enter Try.func8, Try.ntmps8
  go_wp2_with (first
    | (go_at_call 17; refine (H1.out _).mono ?_; rintro e w1 ⟨rfl, b1⟩; have B1 := Lib.hid b1; clear b1)
    | (go_at_call 18; have hx := B2; clear hx; refine (H3.out _).mono ?_; rintro e w3 ⟨rfl, b1⟩; have B3 := Lib.hid (B2.out.trans (b1.mono B2.out.size)); clear b1)
    | (go_at_call 18; refine (H2.out _).mono ?_; rintro e w2 ⟨rfl, b1⟩; have B2 := Lib.hid (B1.out.trans (b1.mono B1.out.size)); clear b1)
    | (go_at_call 13; refine (H5.out _).mono ?_; rintro e w4 ⟨rfl, b1⟩; have B4 := Lib.hid (B3.out.trans (b1.mono B3.out.size)); clear b1)
    | (go_at_call 14; refine (H6.out _).mono ?_; rintro e w5 ⟨rfl, b1⟩; have B5 := Lib.hid (B4.out.trans (b1.mono B4.out.size)); clear b1)
    | (go_at_call 15; refine (H7.out _).mono ?_; rintro e w6 ⟨rfl, b1⟩; have B6 := Lib.hid (B5.out.trans (b1.mono B5.out.size)); clear b1)
    | (go_at_call 16; refine (H8.out _).mono ?_; rintro e w7 ⟨rfl, b1⟩; have B7 := Lib.hid (B6.out.trans (b1.mono B6.out.size)); clear b1)
    | (go_at_call 11; refine (alive_yes _).mono ?_; rintro e w8 ⟨rfl, b1⟩; have B8 := Lib.hid (B7.out.trans (b1.mono B7.out.size)); clear b1))
  go_ret
  exact ⟨rfl, B8.out⟩

set_option maxRecDepth 100000 in
set_option maxHeartbeats 4000000 in
theorem invMidB (k x y a b V5 V6 V7 V8 : Int) (b5 b6 b7 b8 : Bool) (k0 : 0 ≤ k) (k1 : k < 16) (k2 : ¬ k < 4) (x0 : 0 ≤ x) (x1 : ¬ x < 4)
    (H1 : Hid (∀ w, Calls Try.prog 17 #[.int .i64 k] w fun e w' => e = .returned (.tuple #[.int .i64 a, .int .i64 b, .int .i64 0]) ∧ Below w.heap.size w w'))
    (H2 : Hid (∀ w, Calls Try.prog 18 #[.int .i64 a, .int .i64 b] w fun e w' => e = .returned (.tuple #[.int .i64 k, .int .i64 0]) ∧ Below w.heap.size w w'))
    (H3 : Hid (∀ w, Calls Try.prog 18 #[.int .i64 x, .int .i64 y] w fun e w' => e = .returned (.tuple #[.int .i64 0, .int .i64 3]) ∧ Below w.heap.size w w'))
    (H5 : Hid (∀ w, Calls Try.prog 13 #[.int .i64 k] w fun e w' => e = .returned (.tuple #[.int .i64 V5, .bool b5, .int .i64 0]) ∧ Below w.heap.size w w'))
    (H6 : Hid (∀ w, Calls Try.prog 14 #[.int .i64 k] w fun e w' => e = .returned (.tuple #[.int .i64 V6, .bool b6, .int .i64 0]) ∧ Below w.heap.size w w'))
    (H7 : Hid (∀ w, Calls Try.prog 15 #[.int .i64 k] w fun e w' => e = .returned (.tuple #[.int .i64 V7, .bool b7, .int .i64 3]) ∧ Below w.heap.size w w'))
    (H8 : Hid (∀ w, Calls Try.prog 16 #[.int .i64 k] w fun e w' => e = .returned (.tuple #[.int .i64 V8, .bool b8, .int .i64 3]) ∧ Below w.heap.size w w'))
    (w : World) :
    Calls Try.prog 8 #[.int .i64 k, .int .i64 x, .int .i64 y] w fun e w' => e = .returned (.bool true) ∧ Below w.heap.size w w' := by
  have d4 : decide (k < 4) = false := by simp; omega
  go_enter Try.func8, Try.ntmps8
  go_wp2_with (first
    | (go_at_call 17; refine (H1.out _).mono ?_; rintro e w1 ⟨rfl, b1⟩; have B1 := Lib.hid b1; clear b1)
    | (go_at_call 18; have hx := B2; clear hx; refine (H3.out _).mono ?_; rintro e w3 ⟨rfl, b1⟩; have B3 := Lib.hid (B2.out.trans (b1.mono B2.out.size)); clear b1)
    | (go_at_call 18; refine (H2.out _).mono ?_; rintro e w2 ⟨rfl, b1⟩; have B2 := Lib.hid (B1.out.trans (b1.mono B1.out.size)); clear b1)
    | (go_at_call 13; refine (H5.out _).mono ?_; rintro e w4 ⟨rfl, b1⟩; have B4 := Lib.hid (B3.out.trans (b1.mono B3.out.size)); clear b1)
    | (go_at_call 14; refine (H6.out _).mono ?_; rintro e w5 ⟨rfl, b1⟩; have B5 := Lib.hid (B4.out.trans (b1.mono B4.out.size)); clear b1)
    | (go_at_call 15; refine (H7.out _).mono ?_; rintro e w6 ⟨rfl, b1⟩; have B6 := Lib.hid (B5.out.trans (b1.mono B5.out.size)); clear b1)
    | (go_at_call 16; refine (H8.out _).mono ?_; rintro e w7 ⟨rfl, b1⟩; have B7 := Lib.hid (B6.out.trans (b1.mono B6.out.size)); clear b1)
    | (go_at_call 11; refine (alive_yes _).mono ?_; rintro e w8 ⟨rfl, b1⟩; have B8 := Lib.hid (B7.out.trans (b1.mono B7.out.size)); clear b1))
  go_ret
  exact ⟨rfl, B8.out⟩

set_option maxRecDepth 100000 in
set_option maxHeartbeats 4000000 in
theorem invMidC (k x y a b V5 V6 V7 V8 : Int) (b5 b6 b7 b8 : Bool) (k0 : 0 ≤ k) (k1 : k < 16) (k2 : ¬ k < 4) (x0 : 0 ≤ x) (x1 : x < 4) (y0 : ¬ 0 ≤ y)
    (H1 : Hid (∀ w, Calls Try.prog 17 #[.int .i64 k] w fun e w' => e = .returned (.tuple #[.int .i64 a, .int .i64 b, .int .i64 0]) ∧ Below w.heap.size w w'))
    (H2 : Hid (∀ w, Calls Try.prog 18 #[.int .i64 a, .int .i64 b] w fun e w' => e = .returned (.tuple #[.int .i64 k, .int .i64 0]) ∧ Below w.heap.size w w'))
    (H3 : Hid (∀ w, Calls Try.prog 18 #[.int .i64 x, .int .i64 y] w fun e w' => e = .returned (.tuple #[.int .i64 0, .int .i64 3]) ∧ Below w.heap.size w w'))
    (H5 : Hid (∀ w, Calls Try.prog 13 #[.int .i64 k] w fun e w' => e = .returned (.tuple #[.int .i64 V5, .bool b5, .int .i64 0]) ∧ Below w.heap.size w w'))
    (H6 : Hid (∀ w, Calls Try.prog 14 #[.int .i64 k] w fun e w' => e = .returned (.tuple #[.int .i64 V6, .bool b6, .int .i64 0]) ∧ Below w.heap.size w w'))
    (H7 : Hid (∀ w, Calls Try.prog 15 #[.int .i64 k] w fun e w' => e = .returned (.tuple #[.int .i64 V7, .bool b7, .int .i64 3]) ∧ Below w.heap.size w w'))
    (H8 : Hid (∀ w, Calls Try.prog 16 #[.int .i64 k] w fun e w' => e = .returned (.tuple #[.int .i64 V8, .bool b8, .int .i64 3]) ∧ Below w.heap.size w w'))
    (w : World) :
    Calls Try.prog 8 #[.int .i64 k, .int .i64 x, .int .i64 y] w fun e w' => e = .returned (.bool true) ∧ Below w.heap.size w w' := by
  have d4 : decide (k < 4) = false := by simp; omega
  go_enter Try.func8, Try.ntmps8
  go_wp2_with (first
    | (go_at_call 17; refine (H1.out _).mono ?_; rintro e w1 ⟨rfl, b1⟩; have B1 := Lib.hid b1; clear b1)
    | (go_at_call 18; have hx := B2; clear hx; refine (H3.out _).mono ?_; rintro e w3 ⟨rfl, b1⟩; have B3 := Lib.hid (B2.out.trans (b1.mono B2.out.size)); clear b1)
    | (go_at_call 18; refine (H2.out _).mono ?_; rintro e w2 ⟨rfl, b1⟩; have B2 := Lib.hid (B1.out.trans (b1.mono B1.out.size)); clear b1)
    | (go_at_call 13; refine (H5.out _).mono ?_; rintro e w4 ⟨rfl, b1⟩; have B4 := Lib.hid (B3.out.trans (b1.mono B3.out.size)); clear b1)
    | (go_at_call 14; refine (H6.out _).mono ?_; rintro e w5 ⟨rfl, b1⟩; have B5 := Lib.hid (B4.out.trans (b1.mono B4.out.size)); clear b1)
    | (go_at_call 15; refine (H7.out _).mono ?_; rintro e w6 ⟨rfl, b1⟩; have B6 := Lib.hid (B5.out.trans (b1.mono B5.out.size)); clear b1)
    | (go_at_call 16; refine (H8.out _).mono ?_; rintro e w7 ⟨rfl, b1⟩; have B7 := Lib.hid (B6.out.trans (b1.mono B6.out.size)); clear b1)
    | (go_at_call 11; refine (alive_yes _).mono ?_; rintro e w8 ⟨rfl, b1⟩; have B8 := Lib.hid (B7.out.trans (b1.mono B7.out.size)); clear b1))
  go_ret
  exact ⟨rfl, B8.out⟩

set_option maxRecDepth 100000 in
set_option maxHeartbeats 4000000 in
theorem invMidD (k x y a b V5 V6 V7 V8 : Int) (b5 b6 b7 b8 : Bool) (k0 : 0 ≤ k) (k1 : k < 16) (k2 : ¬ k < 4) (x0 : 0 ≤ x) (x1 : x < 4) (y0 : 0 ≤ y) (y1 : ¬ y < 4)
    (H1 : Hid (∀ w, Calls Try.prog 17 #[.int .i64 k] w fun e w' => e = .returned (.tuple #[.int .i64 a, .int .i64 b, .int .i64 0]) ∧ Below w.heap.size w w'))
    (H2 : Hid (∀ w, Calls Try.prog 18 #[.int .i64 a, .int .i64 b] w fun e w' => e = .returned (.tuple #[.int .i64 k, .int .i64 0]) ∧ Below w.heap.size w w'))
    (H3 : Hid (∀ w, Calls Try.prog 18 #[.int .i64 x, .int .i64 y] w fun e w' => e = .returned (.tuple #[.int .i64 0, .int .i64 3]) ∧ Below w.heap.size w w'))
    (H5 : Hid (∀ w, Calls Try.prog 13 #[.int .i64 k] w fun e w' => e = .returned (.tuple #[.int .i64 V5, .bool b5, .int .i64 0]) ∧ Below w.heap.size w w'))
    (H6 : Hid (∀ w, Calls Try.prog 14 #[.int .i64 k] w fun e w' => e = .returned (.tuple #[.int .i64 V6, .bool b6, .int .i64 0]) ∧ Below w.heap.size w w'))
    (H7 : Hid (∀ w, Calls Try.prog 15 #[.int .i64 k] w fun e w' => e = .returned (.tuple #[.int .i64 V7, .bool b7, .int .i64 3]) ∧ Below w.heap.size w w'))
    (H8 : Hid (∀ w, Calls Try.prog 16 #[.int .i64 k] w fun e w' => e = .returned (.tuple #[.int .i64 V8, .bool b8, .int .i64 3]) ∧ Below w.heap.size w w'))
    (w : World) :
    Calls Try.prog 8 #[.int .i64 k, .int .i64 x, .int .i64 y] w fun e w' => e = .returned (.bool true) ∧ Below w.heap.size w w' := by
  have d4 : decide (k < 4) = false := by simp; omega
  go_enter Try.func8, Try.ntmps8
  go_wp2_with (first
    | (go_at_call 17; refine (H1.out _).mono ?_; rintro e w1 ⟨rfl, b1⟩; have B1 := Lib.hid b1; clear b1)
    | (go_at_call 18; have hx := B2; clear hx; refine (H3.out _).mono ?_; rintro e w3 ⟨rfl, b1⟩; have B3 := Lib.hid (B2.out.trans (b1.mono B2.out.size)); clear b1)
    | (go_at_call 18; refine (H2.out _).mono ?_; rintro e w2 ⟨rfl, b1⟩; have B2 := Lib.hid (B1.out.trans (b1.mono B1.out.size)); clear b1)
    | (go_at_call 13; refine (H5.out _).mono ?_; rintro e w4 ⟨rfl, b1⟩; have B4 := Lib.hid (B3.out.trans (b1.mono B3.out.size)); clear b1)
    | (go_at_call 14; refine (H6.out _).mono ?_; rintro e w5 ⟨rfl, b1⟩; have B5 := Lib.hid (B4.out.trans (b1.mono B4.out.size)); clear b1)
    | (go_at_call 15; refine (H7.out _).mono ?_; rintro e w6 ⟨rfl, b1⟩; have B6 := Lib.hid (B5.out.trans (b1.mono B5.out.size)); clear b1)
    | (go_at_call 16; refine (H8.out _).mono ?_; rintro e w7 ⟨rfl, b1⟩; have B7 := Lib.hid (B6.out.trans (b1.mono B6.out.size)); clear b1)
    | (go_at_call 11; refine (alive_yes _).mono ?_; rintro e w8 ⟨rfl, b1⟩; have B8 := Lib.hid (B7.out.trans (b1.mono B7.out.size)); clear b1))
  go_ret
  exact ⟨rfl, B8.out⟩

end Go.Proofs.Ytmackljhomameaa
