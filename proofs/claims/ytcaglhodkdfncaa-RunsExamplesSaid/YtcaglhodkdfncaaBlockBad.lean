/- runs.Block at levels and runs that its first test refuses, at no levels, and at sizes and levels that are out of range. -/
import Derived.Test.YtcaglhodkdfncaaBlock
namespace Go.Proofs.Ytcaglhodkdfncaa
open Go.RowKit

set_option maxRecDepth 100000 in
set_option maxHeartbeats 4000000 in
theorem block_w1 (n N M : Nat) (hn : n = 4 ∨ n = 15 ∨ n = 16) (a1 a2 : Option Addr) (c1 c2 : Nat) (z : Int) (vs : List Int) (w : World) (h1 : Ints w (.slice a1 N c1) vs) (hf : Fits vs) (hN : N ≤ 4096) (hM : M ≤ 4096)
    (hz0 : -9223372036854775808 ≤ z) (hz1 : z ≤ 9223372036854775807) (hc : n < N) :
    Calls Try.prog 18 #[.int .i64 (n : Int), .agg #[.slice a1 N c1, .int .i64 z, .slice a2 M c2]] w fun e w' => e = .returned (.tuple #[.slice none 0 0, .int .i64 4]) ∧ Below w.heap.size w w' := by
  have hn16 : n ≤ 16 := by omega
  have hb0 : Below w.heap.size w (w.alloc (.cells #[.slice a1 N c1, .int .i64 z, .slice a2 M c2] 25)) := (Below.refl _ w).alloc (Nat.le_refl _) _
  have H1 := Lib.hid (h1.below hb0)
  have HN := Lib.hid hn
  have HB0 := Lib.hid hb0
  clear h1 hn hb0
  have d1 : decide (n < N) = true := by simp [hc]
  go_enter Try.func18, Try.ntmps18
  go_wp2_with (fail)
  refine wp_scope_jumps 0 (fun a' w' => a'.defers = [] ∧ a'.tmps.size = 113 ∧ Hid (Below w.heap.size w w')) (fun _ _ => 0) rfl ?_ ?_
  rotate_left
  · rintro ⟨tm, df⟩ w' ⟨rfl, hsz, hh⟩
    go_wp2
    simp only [Exit.jump]
    refine bodyPost_ret (v := .tuple #[.slice none 0 0, .int .i64 4]) (by have hs : tm.size = 113 := hsz; simp [results, Try.f18, go_sem, hs]) rfl ?_
    exact ⟨rfl, hh⟩
  go_wp2_with (first
    | (go_at_call 22; refine (sized_yes 22 (.inl rfl) _ _ (by have := HN.out; omega)).mono ?_; rintro e w' ⟨rfl, rfl⟩)
    | (go_at_call 23; refine (ranged_yes _ vs _ H1.out hf).mono ?_; rintro e w' ⟨rfl, rfl⟩))
  go_step3
  simp only [Exit.then, Exit.inBlock, Exit.jump]
  exact ⟨rfl, rfl, rfl, HB0.out⟩

set_option maxRecDepth 100000 in
set_option maxHeartbeats 4000000 in
theorem block_w2 (n N M : Nat) (hn : n = 4 ∨ n = 15 ∨ n = 16) (a1 a2 : Option Addr) (c1 c2 : Nat) (z : Int) (vs : List Int) (w : World) (h1 : Ints w (.slice a1 N c1) vs) (hf : Fits vs) (hN : N ≤ 4096) (hM : M ≤ 4096)
    (hz0 : -9223372036854775808 ≤ z) (hz1 : z ≤ 9223372036854775807) (q : Nat) (hq : N = q + 1) (hc : ¬ n < q + 1) (hM2 : ¬ M = q) :
    Calls Try.prog 18 #[.int .i64 (n : Int), .agg #[.slice a1 N c1, .int .i64 z, .slice a2 M c2]] w fun e w' => e = .returned (.tuple #[.slice none 0 0, .int .i64 4]) ∧ Below w.heap.size w w' := by
  have hn16 : n ≤ 16 := by omega
  have hb0 : Below w.heap.size w (w.alloc (.cells #[.slice a1 N c1, .int .i64 z, .slice a2 M c2] 25)) := (Below.refl _ w).alloc (Nat.le_refl _) _
  have H1 := Lib.hid (h1.below hb0)
  have HN := Lib.hid hn
  have HB0 := Lib.hid hb0
  clear h1 hn hb0
  subst hq
  have hmx : (if 0 < q then (q : Int) else 0) = q := by split <;> omega
  have d1 : decide ((n : Int) < (q : Int) + 1) = false := by simp; omega
  have d2 : ((M : Int) != (q : Int)) = true := by simp; omega
  clear hM2
  go_enter Try.func18, Try.ntmps18
  go_wp2_with (fail)
  refine wp_scope_jumps 0 (fun a' w' => a'.defers = [] ∧ a'.tmps.size = 113 ∧ Hid (Below w.heap.size w w')) (fun _ _ => 0) rfl ?_ ?_
  rotate_left
  · rintro ⟨tm, df⟩ w' ⟨rfl, hsz, hh⟩
    go_wp2
    simp only [Exit.jump]
    refine bodyPost_ret (v := .tuple #[.slice none 0 0, .int .i64 4]) (by have hs : tm.size = 113 := hsz; simp [results, Try.f18, go_sem, hs]) rfl ?_
    exact ⟨rfl, hh⟩
  go_wp2_with (first
    | (go_at_call 22; refine (sized_yes 22 (.inl rfl) _ _ (by have := HN.out; omega)).mono ?_; rintro e w' ⟨rfl, rfl⟩)
    | (go_at_call 23; refine (ranged_yes _ vs _ H1.out hf).mono ?_; rintro e w' ⟨rfl, rfl⟩))
  go_step3
  simp only [Exit.then, Exit.inBlock, Exit.jump]
  exact ⟨rfl, rfl, rfl, HB0.out⟩

set_option maxRecDepth 100000 in
set_option maxHeartbeats 4000000 in
theorem block_w3 (n N M : Nat) (hn : n = 4 ∨ n = 15 ∨ n = 16) (a1 a2 : Option Addr) (c1 c2 : Nat) (z : Int) (vs : List Int) (w : World) (h1 : Ints w (.slice a1 N c1) vs) (hf : Fits vs) (hN : N ≤ 4096) (hM : M ≤ 4096)
    (hz0 : -9223372036854775808 ≤ z) (hz1 : z ≤ 9223372036854775807) (q : Nat) (hq : N = q + 1) (hc : ¬ n < q + 1) (hM2 : M = q) (hz : z < 0) :
    Calls Try.prog 18 #[.int .i64 (n : Int), .agg #[.slice a1 N c1, .int .i64 z, .slice a2 M c2]] w fun e w' => e = .returned (.tuple #[.slice none 0 0, .int .i64 4]) ∧ Below w.heap.size w w' := by
  have hn16 : n ≤ 16 := by omega
  have hb0 : Below w.heap.size w (w.alloc (.cells #[.slice a1 N c1, .int .i64 z, .slice a2 M c2] 25)) := (Below.refl _ w).alloc (Nat.le_refl _) _
  have H1 := Lib.hid (h1.below hb0)
  have HN := Lib.hid hn
  have HB0 := Lib.hid hb0
  clear h1 hn hb0
  subst hq
  subst hM2
  have hmx : (if 0 < M then (M : Int) else 0) = M := by split <;> omega
  have d1 : decide ((n : Int) < (M : Int) + 1) = false := by simp; omega
  have d2 : ((M : Int) != (M : Int)) = false := by simp
  have d3 : decide (z < 0) = true := by simp; omega
  go_enter Try.func18, Try.ntmps18
  go_wp2_with (fail)
  refine wp_scope_jumps 0 (fun a' w' => a'.defers = [] ∧ a'.tmps.size = 113 ∧ Hid (Below w.heap.size w w')) (fun _ _ => 0) rfl ?_ ?_
  rotate_left
  · rintro ⟨tm, df⟩ w' ⟨rfl, hsz, hh⟩
    go_wp2
    simp only [Exit.jump]
    refine bodyPost_ret (v := .tuple #[.slice none 0 0, .int .i64 4]) (by have hs : tm.size = 113 := hsz; simp [results, Try.f18, go_sem, hs]) rfl ?_
    exact ⟨rfl, hh⟩
  go_wp2_with (first
    | (go_at_call 22; refine (sized_yes 22 (.inl rfl) _ _ (by have := HN.out; omega)).mono ?_; rintro e w' ⟨rfl, rfl⟩)
    | (go_at_call 23; refine (ranged_yes _ vs _ H1.out hf).mono ?_; rintro e w' ⟨rfl, rfl⟩))
  go_step3
  simp only [Exit.then, Exit.inBlock, Exit.jump]
  exact ⟨rfl, rfl, rfl, HB0.out⟩

set_option maxRecDepth 100000 in
set_option maxHeartbeats 4000000 in
theorem block_w4 (n N M : Nat) (hn : n = 4 ∨ n = 15 ∨ n = 16) (a1 a2 : Option Addr) (c1 c2 : Nat) (z : Int) (vs : List Int) (w : World) (h1 : Ints w (.slice a1 N c1) vs) (hf : Fits vs) (hN : N ≤ 4096) (hM : M ≤ 4096)
    (hz0 : -9223372036854775808 ≤ z) (hz1 : z ≤ 9223372036854775807) (q : Nat) (hq : N = q + 1) (hc : ¬ n < q + 1) (hM2 : M = q) (hz : ¬ z < 0) (hzz : (n : Int) - (q + 1) < z) :
    Calls Try.prog 18 #[.int .i64 (n : Int), .agg #[.slice a1 N c1, .int .i64 z, .slice a2 M c2]] w fun e w' => e = .returned (.tuple #[.slice none 0 0, .int .i64 4]) ∧ Below w.heap.size w w' := by
  have hn16 : n ≤ 16 := by omega
  have hb0 : Below w.heap.size w (w.alloc (.cells #[.slice a1 N c1, .int .i64 z, .slice a2 M c2] 25)) := (Below.refl _ w).alloc (Nat.le_refl _) _
  have H1 := Lib.hid (h1.below hb0)
  have HN := Lib.hid hn
  have HB0 := Lib.hid hb0
  clear h1 hn hb0
  subst hq
  subst hM2
  have hmx : (if 0 < M then (M : Int) else 0) = M := by split <;> omega
  have d1 : decide ((n : Int) < (M : Int) + 1) = false := by simp; omega
  have d2 : ((M : Int) != (M : Int)) = false := by simp
  have d3 : decide (z < 0) = false := by simp; omega
  have d4 : decide ((n : Int) - ((M : Int) + 1) < z) = true := by simp; omega
  go_enter Try.func18, Try.ntmps18
  go_wp2_with (fail)
  refine wp_scope_jumps 0 (fun a' w' => a'.defers = [] ∧ a'.tmps.size = 113 ∧ Hid (Below w.heap.size w w')) (fun _ _ => 0) rfl ?_ ?_
  rotate_left
  · rintro ⟨tm, df⟩ w' ⟨rfl, hsz, hh⟩
    go_wp2
    simp only [Exit.jump]
    refine bodyPost_ret (v := .tuple #[.slice none 0 0, .int .i64 4]) (by have hs : tm.size = 113 := hsz; simp [results, Try.f18, go_sem, hs]) rfl ?_
    exact ⟨rfl, hh⟩
  go_wp2_with (first
    | (go_at_call 22; refine (sized_yes 22 (.inl rfl) _ _ (by have := HN.out; omega)).mono ?_; rintro e w' ⟨rfl, rfl⟩)
    | (go_at_call 23; refine (ranged_yes _ vs _ H1.out hf).mono ?_; rintro e w' ⟨rfl, rfl⟩))
  go_step3
  simp only [Exit.then, Exit.inBlock, Exit.jump]
  exact ⟨rfl, rfl, rfl, HB0.out⟩

set_option maxRecDepth 100000 in
set_option maxHeartbeats 4000000 in
theorem block_w5 (n N M : Nat) (hn : n = 4 ∨ n = 15 ∨ n = 16) (a1 a2 : Option Addr) (c1 c2 : Nat) (z : Int) (vs : List Int) (w : World) (h1 : Ints w (.slice a1 N c1) vs) (hf : Fits vs) (hN : N ≤ 4096) (hM : M ≤ 4096)
    (hz0 : -9223372036854775808 ≤ z) (hz1 : z ≤ 9223372036854775807) (hq : N = 0) (hM2 : ¬ M = 0) :
    Calls Try.prog 18 #[.int .i64 (n : Int), .agg #[.slice a1 N c1, .int .i64 z, .slice a2 M c2]] w fun e w' => e = .returned (.tuple #[.slice none 0 0, .int .i64 4]) ∧ Below w.heap.size w w' := by
  have hn16 : n ≤ 16 := by omega
  have hb0 : Below w.heap.size w (w.alloc (.cells #[.slice a1 N c1, .int .i64 z, .slice a2 M c2] 25)) := (Below.refl _ w).alloc (Nat.le_refl _) _
  have H1 := Lib.hid (h1.below hb0)
  have HN := Lib.hid hn
  have HB0 := Lib.hid hb0
  clear h1 hn hb0
  subst hq
  have d1 : (n < 0) = False := by simp
  have d2 : ((M : Int) != 0) = true := by simp; omega
  go_enter Try.func18, Try.ntmps18
  go_wp2_with (fail)
  refine wp_scope_jumps 0 (fun a' w' => a'.defers = [] ∧ a'.tmps.size = 113 ∧ Hid (Below w.heap.size w w')) (fun _ _ => 0) rfl ?_ ?_
  rotate_left
  · rintro ⟨tm, df⟩ w' ⟨rfl, hsz, hh⟩
    go_wp2
    simp only [Exit.jump]
    refine bodyPost_ret (v := .tuple #[.slice none 0 0, .int .i64 4]) (by have hs : tm.size = 113 := hsz; simp [results, Try.f18, go_sem, hs]) rfl ?_
    exact ⟨rfl, hh⟩
  go_wp2_with (first
    | (go_at_call 22; refine (sized_yes 22 (.inl rfl) _ _ (by have := HN.out; omega)).mono ?_; rintro e w' ⟨rfl, rfl⟩)
    | (go_at_call 23; refine (ranged_yes _ vs _ H1.out hf).mono ?_; rintro e w' ⟨rfl, rfl⟩))
  go_step3
  simp only [Exit.then, Exit.inBlock, Exit.jump]
  exact ⟨rfl, rfl, rfl, HB0.out⟩

set_option maxRecDepth 100000 in
set_option maxHeartbeats 4000000 in
theorem block_w6 (n N M : Nat) (hn : n = 4 ∨ n = 15 ∨ n = 16) (a1 a2 : Option Addr) (c1 c2 : Nat) (z : Int) (vs : List Int) (w : World) (h1 : Ints w (.slice a1 N c1) vs) (hf : Fits vs) (hN : N ≤ 4096) (hM : M ≤ 4096)
    (hz0 : -9223372036854775808 ≤ z) (hz1 : z ≤ 9223372036854775807) (hq : N = 0) (hM2 : M = 0) (hz : z < 0) :
    Calls Try.prog 18 #[.int .i64 (n : Int), .agg #[.slice a1 N c1, .int .i64 z, .slice a2 M c2]] w fun e w' => e = .returned (.tuple #[.slice none 0 0, .int .i64 4]) ∧ Below w.heap.size w w' := by
  have hn16 : n ≤ 16 := by omega
  have hb0 : Below w.heap.size w (w.alloc (.cells #[.slice a1 N c1, .int .i64 z, .slice a2 M c2] 25)) := (Below.refl _ w).alloc (Nat.le_refl _) _
  have H1 := Lib.hid (h1.below hb0)
  have HN := Lib.hid hn
  have HB0 := Lib.hid hb0
  clear h1 hn hb0
  subst hq
  subst hM2
  have d3 : decide (z < 0) = true := by simp; omega
  go_enter Try.func18, Try.ntmps18
  go_wp2_with (fail)
  refine wp_scope_jumps 0 (fun a' w' => a'.defers = [] ∧ a'.tmps.size = 113 ∧ Hid (Below w.heap.size w w')) (fun _ _ => 0) rfl ?_ ?_
  rotate_left
  · rintro ⟨tm, df⟩ w' ⟨rfl, hsz, hh⟩
    go_wp2
    simp only [Exit.jump]
    refine bodyPost_ret (v := .tuple #[.slice none 0 0, .int .i64 4]) (by have hs : tm.size = 113 := hsz; simp [results, Try.f18, go_sem, hs]) rfl ?_
    exact ⟨rfl, hh⟩
  go_wp2_with (first
    | (go_at_call 22; refine (sized_yes 22 (.inl rfl) _ _ (by have := HN.out; omega)).mono ?_; rintro e w' ⟨rfl, rfl⟩)
    | (go_at_call 23; refine (ranged_yes _ vs _ H1.out hf).mono ?_; rintro e w' ⟨rfl, rfl⟩))
  go_step3
  simp only [Exit.then, Exit.inBlock, Exit.jump]
  exact ⟨rfl, rfl, rfl, HB0.out⟩

set_option maxRecDepth 100000 in
set_option maxHeartbeats 4000000 in
theorem block_w7 (n N M : Nat) (hn : n = 4 ∨ n = 15 ∨ n = 16) (a1 a2 : Option Addr) (c1 c2 : Nat) (z : Int) (vs : List Int) (w : World) (h1 : Ints w (.slice a1 N c1) vs) (hf : Fits vs) (hN : N ≤ 4096) (hM : M ≤ 4096)
    (hz0 : -9223372036854775808 ≤ z) (hz1 : z ≤ 9223372036854775807) (hq : N = 0) (hM2 : M = 0) (hz : ¬ z < 0) (hzz : (n : Int) < z) :
    Calls Try.prog 18 #[.int .i64 (n : Int), .agg #[.slice a1 N c1, .int .i64 z, .slice a2 M c2]] w fun e w' => e = .returned (.tuple #[.slice none 0 0, .int .i64 4]) ∧ Below w.heap.size w w' := by
  have hn16 : n ≤ 16 := by omega
  have hb0 : Below w.heap.size w (w.alloc (.cells #[.slice a1 N c1, .int .i64 z, .slice a2 M c2] 25)) := (Below.refl _ w).alloc (Nat.le_refl _) _
  have H1 := Lib.hid (h1.below hb0)
  have HN := Lib.hid hn
  have HB0 := Lib.hid hb0
  clear h1 hn hb0
  subst hq
  subst hM2
  have d3 : decide (z < 0) = false := by simp; omega
  have d4 : decide ((n : Int) < z) = true := by simp; omega
  go_enter Try.func18, Try.ntmps18
  go_wp2_with (fail)
  refine wp_scope_jumps 0 (fun a' w' => a'.defers = [] ∧ a'.tmps.size = 113 ∧ Hid (Below w.heap.size w w')) (fun _ _ => 0) rfl ?_ ?_
  rotate_left
  · rintro ⟨tm, df⟩ w' ⟨rfl, hsz, hh⟩
    go_wp2
    simp only [Exit.jump]
    refine bodyPost_ret (v := .tuple #[.slice none 0 0, .int .i64 4]) (by have hs : tm.size = 113 := hsz; simp [results, Try.f18, go_sem, hs]) rfl ?_
    exact ⟨rfl, hh⟩
  go_wp2_with (first
    | (go_at_call 22; refine (sized_yes 22 (.inl rfl) _ _ (by have := HN.out; omega)).mono ?_; rintro e w' ⟨rfl, rfl⟩)
    | (go_at_call 23; refine (ranged_yes _ vs _ H1.out hf).mono ?_; rintro e w' ⟨rfl, rfl⟩))
  go_step3
  simp only [Exit.then, Exit.inBlock, Exit.jump]
  exact ⟨rfl, rfl, rfl, HB0.out⟩

set_option maxRecDepth 100000 in
set_option maxHeartbeats 4000000 in
theorem block_w8 (n N M : Nat) (hn : n = 4 ∨ n = 15 ∨ n = 16) (a1 a2 : Option Addr) (c1 c2 : Nat) (z : Int) (vs : List Int) (w : World) (h1 : Ints w (.slice a1 N c1) vs) (hf : Fits vs) (hN : N ≤ 4096) (hM : M ≤ 4096)
    (hz0 : -9223372036854775808 ≤ z) (hz1 : z ≤ 9223372036854775807) (hq : N = 0) (hM2 : M = 0) (hz : 0 < z) (hzz : ¬ (n : Int) < z) :
    Calls Try.prog 18 #[.int .i64 (n : Int), .agg #[.slice a1 N c1, .int .i64 z, .slice a2 M c2]] w fun e w' => e = .returned (.tuple #[.slice none 0 0, .int .i64 4]) ∧ Below w.heap.size w w' := by
  have hn16 : n ≤ 16 := by omega
  have hb0 : Below w.heap.size w (w.alloc (.cells #[.slice a1 N c1, .int .i64 z, .slice a2 M c2] 25)) := (Below.refl _ w).alloc (Nat.le_refl _) _
  have H1 := Lib.hid (h1.below hb0)
  have HN := Lib.hid hn
  have HB0 := Lib.hid hb0
  clear h1 hn hb0
  subst hq
  subst hM2
  have d3 : decide (z < 0) = false := by simp; omega
  have d4 : decide ((n : Int) < z) = false := by simp; omega
  have d5 : (z != 0) = true := by simp; omega
  go_enter Try.func18, Try.ntmps18
  go_wp2_with (fail)
  refine wp_scope_jumps 0 (fun a' w' => a'.defers = [] ∧ a'.tmps.size = 113 ∧ Hid (Below w.heap.size w w')) (fun _ _ => 0) rfl ?_ ?_
  rotate_left
  · rintro ⟨tm, df⟩ w' ⟨rfl, hsz, hh⟩
    go_wp2
    simp only [Exit.jump]
    refine bodyPost_ret (v := .tuple #[.slice none 0 0, .int .i64 4]) (by have hs : tm.size = 113 := hsz; simp [results, Try.f18, go_sem, hs]) rfl ?_
    exact ⟨rfl, hh⟩
  go_wp2_with (first
    | (go_at_call 22; refine (sized_yes 22 (.inl rfl) _ _ (by have := HN.out; omega)).mono ?_; rintro e w' ⟨rfl, rfl⟩)
    | (go_at_call 23; refine (ranged_yes _ vs _ H1.out hf).mono ?_; rintro e w' ⟨rfl, rfl⟩))
  go_step3
  simp only [Exit.then, Exit.inBlock, Exit.jump]
  exact ⟨rfl, rfl, rfl, HB0.out⟩

set_option maxRecDepth 100000 in
set_option maxHeartbeats 4000000 in
theorem block_none (n : Nat) (hn : n = 4 ∨ n = 15 ∨ n = 16) (a1 a2 : Option Addr) (c1 c2 : Nat) (w : World) :
    Calls Try.prog 18 #[.int .i64 (n : Int), .agg #[.slice a1 0 c1, .int .i64 0, .slice a2 0 c2]] w fun e w' => ∃ v, e = .returned (.tuple #[v, .int .i64 0]) ∧ w'.ownsRow w.heap.size 3 1 v n ((List.replicate n (0 : Int)).map (Value.int .i64)) ∧ Below w.heap.size w w' := by
  have hmk := make_any n hn
  have hn16 : n ≤ 16 := by omega
  have hb0 : Below w.heap.size w (w.alloc (.cells #[.slice a1 0 c1, .int .i64 0, .slice a2 0 c2] 25)) := (Below.refl _ w).alloc (Nat.le_refl _) _
  have H1 := Lib.hid (show Ints (w.alloc (.cells #[.slice a1 0 c1, .int .i64 0, .slice a2 0 c2] 25)) (.slice a1 0 c1) [] from .inl ⟨a1, c1, rfl, rfl⟩)
  have HN := Lib.hid hn
  have hf : Fits [] := fun v hv => by simp at hv
  have HB1 := Lib.hid (hb0.alloc (by simp) (.cells (((List.replicate n (0 : Int)).map (Value.int .i64)).toArray) 3))
  have hbx := Box.new (w.alloc (.cells #[.slice a1 0 c1, .int .i64 0, .slice a2 0 c2] 25)) 3 ((List.replicate n (0 : Int)).map (Value.int .i64)).toArray
  rw [World.size_alloc] at hbx
  have HBX := Lib.hid hbx
  have d4 : decide ((n : Int) < 0) = false := by simp
  clear hn hb0 hbx
  go_enter Try.func18, Try.ntmps18
  go_wp2_with (fail)
  go_step3
  go_wp2_with (first
    | (go_at_call 22; refine (sized_yes 22 (.inl rfl) _ _ (by have := HN.out; omega)).mono ?_; rintro e w' ⟨rfl, rfl⟩)
    | (go_at_call 23; refine (ranged_yes _ [] _ H1.out hf).mono ?_; rintro e w' ⟨rfl, rfl⟩))
  rw [Exit.noGoto_ret]
  go_ret2
  have ho := own_of_box (cap := n) (base := w.heap.size) HBX.out (by omega) (by simp) (by simp; omega)
  rw [List.length_replicate] at ho
  exact ⟨_, rfl, by simpa using ho, by simpa using HB1.out⟩

set_option maxHeartbeats 2000000 in
theorem block_size (size : Int) (h4 : ¬ size = 4) (h15 : ¬ size = 15) (h16 : ¬ size = 16) (a1 a2 : Option Addr) (N M c1 c2 : Nat) (z : Int) (w : World) (hN : N ≤ 4096) :
    Calls Try.prog 18 #[.int .i64 size, .agg #[.slice a1 N c1, .int .i64 z, .slice a2 M c2]] w fun e w' => e = .returned (.tuple #[.slice none 0 0, .int .i64 2]) ∧ Below w.heap.size w w' := by
  have H4 := Lib.hid h4
  have H15 := Lib.hid h15
  have H16 := Lib.hid h16
  clear h4 h15 h16
  go_enter Try.func18, Try.ntmps18
  go_wp2_with (fail)
  go_step3
  go_wp2_with (go_at_call 22; refine (sized_no 22 (.inl rfl) _ _ H4.out H15.out H16.out).mono ?_; rintro e w' ⟨rfl, rfl⟩)
  rw [Exit.noGoto_ret]
  go_ret2
  exact ⟨rfl, (Below.refl _ w).alloc (Nat.le_refl _) _⟩

set_option maxHeartbeats 2000000 in
theorem block_range (size : Int) (hs : size = 4 ∨ size = 15 ∨ size = 16) (a1 a2 : Option Addr) (N M c1 c2 : Nat) (z : Int) (vs : List Int) (w : World) (h1 : Ints w (.slice a1 N c1) vs) (hf : ¬ Fits vs) (hN : N ≤ 4096) :
    Calls Try.prog 18 #[.int .i64 size, .agg #[.slice a1 N c1, .int .i64 z, .slice a2 M c2]] w fun e w' => e = .returned (.tuple #[.slice none 0 0, .int .i64 3]) ∧ Below w.heap.size w w' := by
  have HS := Lib.hid hs
  have H1 := Lib.hid (h1.below ((Below.refl _ w).alloc (Nat.le_refl _) (.cells #[.slice a1 N c1, .int .i64 z, .slice a2 M c2] 25)))
  clear hs h1
  go_enter Try.func18, Try.ntmps18
  go_wp2_with (fail)
  go_step3
  go_wp2_with (first
    | (go_at_call 22; refine (sized_yes 22 (.inl rfl) _ _ HS.out).mono ?_; rintro e w' ⟨rfl, rfl⟩)
    | (go_at_call 23; refine (ranged_no _ vs _ H1.out hf).mono ?_; rintro e w' ⟨rfl, rfl⟩))
  rw [Exit.noGoto_ret]
  go_ret2
  exact ⟨rfl, (Below.refl _ w).alloc (Nat.le_refl _) _⟩

open Classical in
/-- What Block returns: the block, the error. -/
noncomputable def blkSpec (size : Int) (vs : List Int) (z : Int) (bs : List Int) : List Int × Int :=
  if size = 4 ∨ size = 15 ∨ size = 16 then (if Fits vs then (if Poss size.toNat vs z bs then (blk size.toNat vs z bs, 0) else ([], 4)) else ([], 3)) else ([], 2)

theorem own_nil_of {w : World} {base : Nat} : w.ownsRow base 3 1 (.slice none 0 0) ([] : List Int).length (([] : List Int).map (Value.int .i64)) := World.ownsRow_nil _ _ _ _

theorem blk_zeros (n : Nat) : blk n [] 0 [] = List.replicate n 0 := by simp [blk, suf]

open Classical in
theorem block_any (size : Int) (sL sB : Value) (z : Int) (vs bs : List Int) (w : World) (h1 : Ints w sL vs) (h2 : Ints w sB bs) (hz0 : -9223372036854775808 ≤ z) (hz1 : z ≤ 9223372036854775807) :
    Calls Try.prog 18 #[.int .i64 size, .agg #[sL, .int .i64 z, sB]] w fun e w' => ∃ v, e = .returned (.tuple #[v, .int .i64 (blkSpec size vs z bs).2]) ∧ w'.ownsRow w.heap.size 3 1 v (blkSpec size vs z bs).1.length ((blkSpec size vs z bs).1.map (Value.int .i64)) ∧ Below w.heap.size w w' := by
  obtain ⟨a1, c1, rfl⟩ := h1.form
  obtain ⟨a2, c2, rfl⟩ := h2.form
  have l1 := h1.len
  have l2 := h2.len
  unfold blkSpec
  by_cases hs : size = 4 ∨ size = 15 ∨ size = 16
  · rw [if_pos hs]
    by_cases hf : Fits vs
    · rw [if_pos hf]
      obtain ⟨n, rfl⟩ : ∃ n : Nat, size = (n : Int) := ⟨size.toNat, by omega⟩
      have hn : n = 4 ∨ n = 15 ∨ n = 16 := by omega
      rw [Int.toNat_natCast]
      have bad : ¬ Poss n vs z bs → (Calls Try.prog 18 #[.int .i64 (n : Int), .agg #[.slice a1 vs.length c1, .int .i64 z, .slice a2 bs.length c2]] w fun e w' => e = .returned (.tuple #[.slice none 0 0, .int .i64 4]) ∧ Below w.heap.size w w') →
          Calls Try.prog 18 #[.int .i64 (n : Int), .agg #[.slice a1 vs.length c1, .int .i64 z, .slice a2 bs.length c2]] w fun e w' => ∃ v, e = .returned (.tuple #[v, .int .i64 (if Poss n vs z bs then (blk n vs z bs, (0 : Int)) else ([], 4)).2]) ∧ w'.ownsRow w.heap.size 3 1 v (if Poss n vs z bs then (blk n vs z bs, (0 : Int)) else ([], 4)).1.length ((if Poss n vs z bs then (blk n vs z bs, (0 : Int)) else ([], 4)).1.map (Value.int .i64)) ∧ Below w.heap.size w w' := by
        intro hp hcall
        rw [if_neg hp]
        exact hcall.mono fun e w' ⟨he, hb⟩ => ⟨_, he, own_nil_of, hb⟩
      by_cases c1' : n < vs.length
      · exact bad (fun h => by have := h.len; omega) (block_w1 n vs.length bs.length hn a1 a2 c1 c2 z vs w h1 hf l1 l2 hz0 hz1 c1')
      · by_cases hM : bs.length = vs.length - 1
        · by_cases c3 : z < 0
          · refine bad (fun h => by have := h.z0; omega) ?_
            by_cases h0 : vs.length = 0
            · exact block_w6 n vs.length bs.length hn a1 a2 c1 c2 z vs w h1 hf l1 l2 hz0 hz1 h0 (by omega) c3
            · exact block_w3 n vs.length bs.length hn a1 a2 c1 c2 z vs w h1 hf l1 l2 hz0 hz1 (vs.length - 1) (by omega) (by omega) (by omega) c3
          · by_cases c4 : (n : Int) - vs.length < z
            · refine bad (fun h => by have := h.z1; omega) ?_
              by_cases h0 : vs.length = 0
              · exact block_w7 n vs.length bs.length hn a1 a2 c1 c2 z vs w h1 hf l1 l2 hz0 hz1 h0 (by omega) c3 (by omega)
              · exact block_w4 n vs.length bs.length hn a1 a2 c1 c2 z vs w h1 hf l1 l2 hz0 hz1 (vs.length - 1) (by omega) (by omega) (by omega) c3 (by omega)
            · by_cases h0 : vs.length = 0
              · by_cases hz : z = 0
                · have hv : vs = [] := List.length_eq_zero_iff.1 h0
                  have hb : bs = [] := List.length_eq_zero_iff.1 (by omega)
                  subst hz
                  subst hv
                  subst hb
                  have hp : Poss n [] 0 [] := ⟨by simp, rfl, by omega, by simp, fun _ => rfl, by simp, by simp, by simp⟩
                  rw [if_pos hp]
                  refine (block_none n hn a1 a2 c1 c2 w).mono fun e w' ⟨v, he, ho, hb⟩ => ⟨v, he, ?_, hb⟩
                  simp only [blk_zeros, List.length_replicate]
                  exact ho
                · exact bad (fun h => hz (h.none (List.length_eq_zero_iff.1 h0))) (block_w8 n vs.length bs.length hn a1 a2 c1 c2 z vs w h1 hf l1 l2 hz0 hz1 h0 (by omega) (by omega) (by omega))
              · refine (block_loop n bs.length hn _ _ z vs bs w h1 h2 hf (by omega) rfl (by omega) (by omega) (by omega)).mono ?_
                rintro e w' ⟨v, er, rfl, ⟨hp, rfl, ho⟩ | ⟨hp, rfl, rfl⟩, hb⟩
                · rw [if_pos hp]
                  exact ⟨v, rfl, by simp only; rw [(of_blk hp).1]; exact ho, hb⟩
                · rw [if_neg hp]
                  exact ⟨_, rfl, own_nil_of, hb⟩
        · refine bad (fun h => hM h.bef) ?_
          by_cases h0 : vs.length = 0
          · exact block_w5 n vs.length bs.length hn a1 a2 c1 c2 z vs w h1 hf l1 l2 hz0 hz1 h0 (by omega)
          · exact block_w2 n vs.length bs.length hn a1 a2 c1 c2 z vs w h1 hf l1 l2 hz0 hz1 (vs.length - 1) (by omega) (by omega) (by omega)
    · rw [if_neg hf]
      exact (block_range size hs a1 a2 vs.length bs.length c1 c2 z vs w h1 hf l1).mono fun e w' ⟨he, hb⟩ => ⟨_, he, own_nil_of, hb⟩
  · rw [if_neg hs]
    exact (block_size size (by omega) (by omega) (by omega) a1 a2 vs.length bs.length c1 c2 z w l1).mono fun e w' ⟨he, hb⟩ => ⟨_, he, own_nil_of, hb⟩
end Go.Proofs.Ytcaglhodkdfncaa
