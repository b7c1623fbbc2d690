/- Contracts of See. -/
import Derived.Test.YtomeiofieheggaaSee
import Derived.RegionTactic
namespace Go.Proofs.Ytomeiofieheggaa
open Go.RowKit
set_option linter.unusedSimpArgs false
set_option linter.unusedVariables false

theorem see_nil (i b : Int) (w : World) :
    Calls Try.prog 15 #[.pointer none, .int .i64 i, .int .u8 b] w fun e w' => e = .returned (.int .i64 1) ∧ Below w.heap.size w w' := by
  go_enter Try.func15, Try.ntmps15
  go_wp2_with (go_at_call 16; refine (state_nil _ _).mono ?_; rintro e w1 ⟨rfl, b1⟩; have B1 := Lib.hid b1; clear b1)
  go_ret
  exact ⟨rfl, B1.out.alloc B1.out.size _⟩

theorem see_no (g : Nat) (i b : Int) (h : i < 0 ∨ 286 ≤ i) (w : World) :
    Calls Try.prog 15 #[.pointer (some ⟨g, 0, none⟩), .int .i64 i, .int .u8 b] w fun e w' => e = .returned (.int .i64 3) ∧ Below w.heap.size w w' := by
  have HS := Lib.hid (state_no g i h)
  clear h
  go_enter Try.func15, Try.ntmps15
  go_wp2_with (go_at_call 16; refine (HS.out _).mono ?_; rintro e w1 ⟨rfl, b1⟩; have B1 := Lib.hid b1; clear b1)
  go_ret
  exact ⟨rfl, B1.out.alloc B1.out.size _⟩

set_option maxRecDepth 100000 in
set_option maxHeartbeats 4000000 in
theorem see_bad (g : Nat) (S : Nat → Int × Int) (k : Nat) (b : Int) (hk : k < 286) (h0 : 0 ≤ (S k).1) (h1 : 0 ≤ (S k).2) (b0 : 0 ≤ b) (he : nxtE (S k).1 (S k).2 b = 3) (w : World) (hT : Tab w g S) :
    Calls Try.prog 15 #[.pointer (some ⟨g, 0, none⟩), .int .i64 (k : Int), .int .u8 b] w fun e w' => e = .returned (.int .i64 3) ∧ Below w.heap.size w w' := by
  have HS := Lib.hid (state_yes g S k hk w hT)
  have HN := Lib.hid (fun w => next_any (S k).1 (S k).2 b h0 h1 b0 w 25 (.inl rfl))
  have hg := hT.lt
  rw [he] at HN
  generalize nxtP (S k).1 (S k).2 b = x' at *
  generalize nxtM (S k).1 (S k).2 b = y' at *
  generalize (S k).1 = x at *
  generalize (S k).2 = y at *
  clear hT he h0 h1 b0
  have hk' : (k : Int) < 286 := by omega
  go_enter Try.func15, Try.ntmps15
  go_wp2_with (first
    | (go_at_call 16; refine HS.out.mono ?_; rintro e w1 ⟨rfl, b1⟩; have hl1 := b1.size; have B1 := Lib.hid b1; clear b1)
    | (go_at_call 25; refine (HN.out _).mono ?_; rintro e w2 ⟨rfl, b2⟩; have hx := (Box.new w1 23 #[.int .u8 x, .int .u8 y]).below b2 (by simp); have hl2 := hx.lt; have f0 := hx.cell 0; have f1 := hx.cell 1; have f2 := hx.frozen 0; have f3 := hx.frozen 1; simp only [List.getElem?_toArray, List.getElem?_cons_zero, List.getElem?_cons_succ] at f0 f1; have B2 := Lib.hid (B1.out.trans ((((Below.refl _ w1).alloc (Nat.le_refl _) _).trans (b2.mono (by simp))).mono B1.out.size)); clear b2 hx))
  go_ret
  refine ⟨rfl, (B2.out.setCell (by simp; omega) _).setCell (by simp; omega) _⟩

set_option maxRecDepth 100000 in
set_option maxHeartbeats 4000000 in
theorem see_ok (g : Nat) (S : Nat → Int × Int) (k : Nat) (b : Int) (hk : k < 286) (h0 : 0 ≤ (S k).1) (h1 : 0 ≤ (S k).2) (b0 : 0 ≤ b) (he : nxtE (S k).1 (S k).2 b = 0) (w : World) (hT : Tab w g S) :
    Calls Try.prog 15 #[.pointer (some ⟨g, 0, none⟩), .int .i64 (k : Int), .int .u8 b] w fun e w' => e = .returned (.int .i64 0) ∧ Tab w' g (upd S k (nxtP (S k).1 (S k).2 b, nxtM (S k).1 (S k).2 b)) ∧ Far g w w' := by
  have HS := Lib.hid (state_yes g S k hk w hT)
  have HN := Lib.hid (fun w => next_any (S k).1 (S k).2 b h0 h1 b0 w 25 (.inl rfl))
  have T0 := Lib.hid hT
  have hg := hT.lt
  rw [he] at HN
  generalize nxtP (S k).1 (S k).2 b = x' at *
  generalize nxtM (S k).1 (S k).2 b = y' at *
  generalize (S k).1 = x at *
  generalize (S k).2 = y at *
  clear hT he h0 h1 b0
  have hk' : (k : Int) < 286 := by omega
  go_enter Try.func15, Try.ntmps15
  go_wp2_with (first
    | (go_at_call 16; refine HS.out.mono ?_; rintro e w1 ⟨rfl, b1⟩; have hl1 := b1.size; have B1 := Lib.hid b1; clear b1)
    | (go_at_call 25; refine (HN.out _).mono ?_; rintro e w2 ⟨rfl, b2⟩; have hx := (Box.new w1 23 #[.int .u8 x, .int .u8 y]).below b2 (by simp); have T2 := ((T0.out.below B1.out hg).alloc (.cells #[.int .u8 x, .int .u8 y] 23)).below b2 (by simp; omega); obtain ⟨d0, d1, d2, d3⟩ := T2.cells k hk; have hl2 := hx.lt; have f0 := hx.cell 0; have f1 := hx.cell 1; have f2 := hx.frozen 0; have f3 := hx.frozen 1; simp only [List.getElem?_toArray, List.getElem?_cons_zero, List.getElem?_cons_succ] at f0 f1; have TT := Lib.hid T2; have B2 := Lib.hid (B1.out.trans ((((Below.refl _ w1).alloc (Nat.le_refl _) _).trans (b2.mono (by simp))).mono B1.out.size)); clear b2 hx T2))
  have hne : g ≠ w1.heap.size := by omega
  have hT5 := Lib.hid ((TT.out.far (p := ⟨w1.heap.size, 0, none⟩) hne (.int .u8 x')).far (p := ⟨w1.heap.size, 1, none⟩) hne (.int .u8 y'))
  go_region
  all_goals
    go_wp2_with (fail)
    go_ret
    exact ⟨rfl, (hT5.out.drewN 1).set k hk x' y', (((((Far.of_below B2.out).setNew (by simp; omega) _).setNew (by simp; omega) _).drewN 1).set _ _).set _ _⟩

end Go.Proofs.Ytomeiofieheggaa
