/- CtxNames: the chapter's examples, and nil tables; no conditions. -/
import Derived.Test.YtomeiofieheggaaRows
import Derived.WalkKit
import Derived.ProofKit
import Derived.OpenShut
import Derived.Below
import Derived.Test.YtomeiofieheggaaActs
import Derived.ShutString
namespace Go.Proofs.Ytomeiofieheggaa.ctxNames
open Go.ChangeShapes Go.WideShapes Go.ChangeAt Go.RowKit
open Go.ChangeMaps (open_string shut_string)
set_option linter.unusedVariables false

theorem own : ownKnob Try.prog.godebug = none := by kernel_rfl

/-! ### The walk -/
theorem two_box {w w1 : World} {cs : Array Value} (t : TypeId) (b : Below (w.alloc (.cells cs t)).heap.size (w.alloc (.cells cs t)) w1) : Box w1 w.heap.size t cs := (Box.new w t cs).below b (by simp)

theorem seen_names : seeS (seeS (S0 0 26) 3 0) 3 1 3 = (10, 1) := by decide
theorem see_same (S : Nat → Int × Int) : seeS S 3 2 = S ∧ seeS S 286 0 = S ∧ seeS S (-1) 0 = S := by
  unfold seeS
  exact ⟨rfl, rfl, rfl⟩

def T1 : Array Value := #[.int .i64 0, .int .i64 0, .int .i64 0, .int .i64 23, .int .i64 0, .int .i64 0, .int .i64 0, .int .i64 51, .int .i64 62, .int .i64 0, .int .i64 3, .int .i64 0, .int .i64 26, .int .i64 10, .int .i64 1, .int .i64 285, .int .i64 3, .int .i64 51, .int .i64 21, .int .i64 1]
def T2 : Array Value := #[.int .i64 286, .int .i64 0, .int .i64 0, .int .i64 0, .int .i64 4, .int .i64 0, .int .i64 0, .int .i64 0, .int .i64 52, .int .i64 (-1), .int .i64 0, .int .i64 0, .int .i64 0, .int .i64 (-1), .int .i64 0, .int .i64 0, .int .i64 0, .int .i64 (-1)]
theorem i1_0 : pI 0 0 0 = 23 ∧ bI 0 0 0 = 0 ∧ eI 0 0 0 = 0 := by decide
theorem i1_1 : pI 0 0 51 = 62 ∧ bI 0 0 51 = 0 ∧ eI 0 0 51 = 0 := by decide
theorem i1_2 : pI 3 0 26 = 10 ∧ bI 3 0 26 = 1 ∧ eI 3 0 26 = 0 := by decide
theorem i1_3 : pI 285 3 51 = 21 ∧ bI 285 3 51 = 1 ∧ eI 285 3 51 = 0 := by decide
theorem i2_0 : pI 286 0 0 = 0 ∧ bI 286 0 0 = 0 ∧ eI 286 0 0 = 3 := by decide
theorem i2_1 : pI 0 4 0 = 0 ∧ bI 0 4 0 = 0 ∧ eI 0 4 0 = 3 := by decide
theorem i2_2 : pI 0 0 52 = 0 ∧ bI 0 0 52 = 0 ∧ eI 0 0 52 = 3 := by decide
theorem i2_3 : pI (-1) 0 0 = 0 ∧ bI (-1) 0 0 = 0 ∧ eI (-1) 0 0 = 3 := by decide
theorem i2_4 : pI 0 (-1) 0 = 0 ∧ bI 0 (-1) 0 = 0 ∧ eI 0 (-1) 0 = 3 := by decide
theorem i2_5 : pI 0 0 (-1) = 0 ∧ bI 0 0 (-1) = 0 ∧ eI 0 0 (-1) = 3 := by decide

set_option maxRecDepth 100000 in
set_option maxHeartbeats 16000000 in
theorem walk  (w : World) :
    Calls Try.prog 7 #[] w fun e w' => e = .returned (.bool true) ∧ Below w.heap.size w w' := by
  have hT := Lib.hid (see_same (seeS (seeS (S0 0 26) 3 0) 3 1))
  have HN := Lib.hid (fun w => new_yes 0 26 (by omega) (by omega) (by omega) (by omega) w)
  have HS1 := Lib.hid (fun g w hT => see_any g (S0 0 26) 3 0 (S0_good 0 26) (by omega) w hT)
  have HS2 := Lib.hid (fun g w hT => see_any g (seeS (S0 0 26) 3 0) 3 1 (seeS_good (S0_good 0 26) (by omega)) (by omega) w hT)
  have hg2 : Good (seeS (seeS (S0 0 26) 3 0) 3 1) := seeS_good (seeS_good (S0_good 0 26) (by omega)) (by omega)
  have HS3 := Lib.hid (fun g w hT => see_any g (seeS (seeS (S0 0 26) 3 0) 3 1) 3 2 hg2 (by omega) w hT)
  have HS4 := Lib.hid (fun g w hT => see_any g (seeS (seeS (S0 0 26) 3 0) 3 1) 286 0 hg2 (by omega) w hT)
  have HS5 := Lib.hid (fun g w hT => see_any g (seeS (seeS (S0 0 26) 3 0) 3 1) (-1) 0 hg2 (by omega) w hT)
  have HST := Lib.hid (fun g w hT => state_any g (seeS (seeS (S0 0 26) 3 0) 3 1) 3 w hT)
  rw [show seeE 3 0 = 0 from rfl] at HS1
  rw [show seeE 3 1 = 0 from rfl] at HS2
  rw [show seeE 3 2 = 3 from rfl, hT.out.1] at HS3
  rw [show seeE 286 0 = 3 from rfl, hT.out.2.1] at HS4
  rw [show seeE (-1) 0 = 3 from rfl, hT.out.2.2] at HS5
  have e1 : stP (seeS (seeS (S0 0 26) 3 0) 3 1) 3 = 10 := by unfold stP; rw [if_pos (by omega)]; exact congrArg Prod.fst seen_names
  have e2 : stM (seeS (seeS (S0 0 26) 3 0) 3 1) 3 = 1 := by unfold stM; rw [if_pos (by omega)]; exact congrArg Prod.snd seen_names
  rw [e1, e2, show stE 3 = 0 from rfl] at HST
  clear e1 e2 hT hg2
  generalize seeS (seeS (S0 0 26) 3 0) 3 1 = S2 at *
  generalize seeS (S0 0 26) 3 0 = S1 at *
  generalize S0 0 26 = S at *
  have HX1 := Lib.hid (Box.new w 43 T1)
  go_enter Try.func7, Try.ntmps7
  go_wp2_with (fail)
  go_loopw [24] (fun v wr => ∃ k : Nat, k ≤ 4 ∧ v = .int .i64 k ∧ Box wr w.heap.size 43 T1 ∧ Below w.heap.size w wr) (fun v _ => 4 - (intOf v).toNat)
  case atStart => exact ⟨0, by omega, rfl, HX1.out, (Below.refl _ _).alloc (Nat.le_refl _) _⟩
  case round =>
    obtain ⟨k, hk, rfl, hX, hB⟩ := hrel
    have X1 := Lib.hid hX
    have B1 := Lib.hid hB
    have s1 := hB.size
    clear hX hB HX1
    have hk5 : k = 0 ∨ k = 1 ∨ k = 2 ∨ k = 3 ∨ k = 4 := by omega
    rcases hk5 with rfl | rfl | rfl | rfl | rfl
    · have c0 : wr.cell? ⟨w.heap.size, 0, none⟩ = some (.int .i64 0) := X1.out.cell 0; have c1 : wr.cell? ⟨w.heap.size, 1, none⟩ = some (.int .i64 0) := X1.out.cell 1; have c2 : wr.cell? ⟨w.heap.size, 2, none⟩ = some (.int .i64 0) := X1.out.cell 2; have c3 : wr.cell? ⟨w.heap.size, 3, none⟩ = some (.int .i64 23) := X1.out.cell 3; have c4 : wr.cell? ⟨w.heap.size, 4, none⟩ = some (.int .i64 0) := X1.out.cell 4
      have HI := Lib.hid (fun w => init_any 0 0 0 w)
      rw [i1_0.1, i1_0.2.1, i1_0.2.2] at HI
      go_wp2_with (fail)
      refine (HI.out _).mono ?_
      rintro e w1 ⟨rfl, b1⟩
      have XX := two_box 43 b1
      have y3 : w1.cell? ⟨wr.heap.size, 3, none⟩ = some (.int .i64 23) := by simpa using XX.cell 3
      have y4 : w1.cell? ⟨wr.heap.size, 4, none⟩ = some (.int .i64 0) := by simpa using XX.cell 4
      have sx := XX.lt
      have BB := Lib.hid ((Below.refl _ wr).alloc (Nat.le_refl _) _ |>.trans (b1.mono (by simp)))
      have B2 := Lib.hid (B1.out.trans (BB.out.mono s1))
      have X2 := Lib.hid (X1.out.below BB.out X1.out.lt)
      clear b1 XX BB
      go_wp2_with (fail)
      go_roundw
      case rel => exact ⟨1, by omega, rfl, X2.out.alloc _, B2.out.alloc B2.out.size _⟩
      case measure => simp [intOf]
    · have c0 : wr.cell? ⟨w.heap.size, 5, none⟩ = some (.int .i64 0) := X1.out.cell 5; have c1 : wr.cell? ⟨w.heap.size, 6, none⟩ = some (.int .i64 0) := X1.out.cell 6; have c2 : wr.cell? ⟨w.heap.size, 7, none⟩ = some (.int .i64 51) := X1.out.cell 7; have c3 : wr.cell? ⟨w.heap.size, 8, none⟩ = some (.int .i64 62) := X1.out.cell 8; have c4 : wr.cell? ⟨w.heap.size, 9, none⟩ = some (.int .i64 0) := X1.out.cell 9
      have HI := Lib.hid (fun w => init_any 0 0 51 w)
      rw [i1_1.1, i1_1.2.1, i1_1.2.2] at HI
      go_wp2_with (fail)
      refine (HI.out _).mono ?_
      rintro e w1 ⟨rfl, b1⟩
      have XX := two_box 43 b1
      have y3 : w1.cell? ⟨wr.heap.size, 3, none⟩ = some (.int .i64 62) := by simpa using XX.cell 3
      have y4 : w1.cell? ⟨wr.heap.size, 4, none⟩ = some (.int .i64 0) := by simpa using XX.cell 4
      have sx := XX.lt
      have BB := Lib.hid ((Below.refl _ wr).alloc (Nat.le_refl _) _ |>.trans (b1.mono (by simp)))
      have B2 := Lib.hid (B1.out.trans (BB.out.mono s1))
      have X2 := Lib.hid (X1.out.below BB.out X1.out.lt)
      clear b1 XX BB
      go_wp2_with (fail)
      go_roundw
      case rel => exact ⟨2, by omega, rfl, X2.out.alloc _, B2.out.alloc B2.out.size _⟩
      case measure => simp [intOf]
    · have c0 : wr.cell? ⟨w.heap.size, 10, none⟩ = some (.int .i64 3) := X1.out.cell 10; have c1 : wr.cell? ⟨w.heap.size, 11, none⟩ = some (.int .i64 0) := X1.out.cell 11; have c2 : wr.cell? ⟨w.heap.size, 12, none⟩ = some (.int .i64 26) := X1.out.cell 12; have c3 : wr.cell? ⟨w.heap.size, 13, none⟩ = some (.int .i64 10) := X1.out.cell 13; have c4 : wr.cell? ⟨w.heap.size, 14, none⟩ = some (.int .i64 1) := X1.out.cell 14
      have HI := Lib.hid (fun w => init_any 3 0 26 w)
      rw [i1_2.1, i1_2.2.1, i1_2.2.2] at HI
      go_wp2_with (fail)
      refine (HI.out _).mono ?_
      rintro e w1 ⟨rfl, b1⟩
      have XX := two_box 43 b1
      have y3 : w1.cell? ⟨wr.heap.size, 3, none⟩ = some (.int .i64 10) := by simpa using XX.cell 3
      have y4 : w1.cell? ⟨wr.heap.size, 4, none⟩ = some (.int .i64 1) := by simpa using XX.cell 4
      have sx := XX.lt
      have BB := Lib.hid ((Below.refl _ wr).alloc (Nat.le_refl _) _ |>.trans (b1.mono (by simp)))
      have B2 := Lib.hid (B1.out.trans (BB.out.mono s1))
      have X2 := Lib.hid (X1.out.below BB.out X1.out.lt)
      clear b1 XX BB
      go_wp2_with (fail)
      go_roundw
      case rel => exact ⟨3, by omega, rfl, X2.out.alloc _, B2.out.alloc B2.out.size _⟩
      case measure => simp [intOf]
    · have c0 : wr.cell? ⟨w.heap.size, 15, none⟩ = some (.int .i64 285) := X1.out.cell 15; have c1 : wr.cell? ⟨w.heap.size, 16, none⟩ = some (.int .i64 3) := X1.out.cell 16; have c2 : wr.cell? ⟨w.heap.size, 17, none⟩ = some (.int .i64 51) := X1.out.cell 17; have c3 : wr.cell? ⟨w.heap.size, 18, none⟩ = some (.int .i64 21) := X1.out.cell 18; have c4 : wr.cell? ⟨w.heap.size, 19, none⟩ = some (.int .i64 1) := X1.out.cell 19
      have HI := Lib.hid (fun w => init_any 285 3 51 w)
      rw [i1_3.1, i1_3.2.1, i1_3.2.2] at HI
      go_wp2_with (fail)
      refine (HI.out _).mono ?_
      rintro e w1 ⟨rfl, b1⟩
      have XX := two_box 43 b1
      have y3 : w1.cell? ⟨wr.heap.size, 3, none⟩ = some (.int .i64 21) := by simpa using XX.cell 3
      have y4 : w1.cell? ⟨wr.heap.size, 4, none⟩ = some (.int .i64 1) := by simpa using XX.cell 4
      have sx := XX.lt
      have BB := Lib.hid ((Below.refl _ wr).alloc (Nat.le_refl _) _ |>.trans (b1.mono (by simp)))
      have B2 := Lib.hid (B1.out.trans (BB.out.mono s1))
      have X2 := Lib.hid (X1.out.below BB.out X1.out.lt)
      clear b1 XX BB
      go_wp2_with (fail)
      go_roundw
      case rel => exact ⟨4, by omega, rfl, X2.out.alloc _, B2.out.alloc B2.out.size _⟩
      case measure => simp [intOf]
    · obtain ⟨wo, rfl⟩ : ∃ wo : World, wo = wr := ⟨_, rfl⟩
      have HX2 := Lib.hid (Box.new wo 45 T2)
      go_wp2_with (fail)
      go_loopw [60] (fun v wr => ∃ k : Nat, k ≤ 6 ∧ v = .int .i64 k ∧ Box wr wo.heap.size 45 T2 ∧ Below w.heap.size w wr) (fun v _ => 6 - (intOf v).toNat)
      case atStart => exact ⟨0, by omega, rfl, HX2.out, B1.out.alloc s1 _⟩
      case round =>
        obtain ⟨k, hk', rfl, hX, hB⟩ := hrel
        have X3 := Lib.hid hX
        have B3 := Lib.hid hB
        have s3 := hB.size
        clear hX hB HX2
        have hk5 : k = 0 ∨ k = 1 ∨ k = 2 ∨ k = 3 ∨ k = 4 ∨ k = 5 ∨ k = 6 := by omega
        rcases hk5 with rfl | rfl | rfl | rfl | rfl | rfl | rfl
        · have c0 : wr.cell? ⟨wo.heap.size, 0, none⟩ = some (.int .i64 286) := X3.out.cell 0; have c1 : wr.cell? ⟨wo.heap.size, 1, none⟩ = some (.int .i64 0) := X3.out.cell 1; have c2 : wr.cell? ⟨wo.heap.size, 2, none⟩ = some (.int .i64 0) := X3.out.cell 2
          have HI := Lib.hid (fun w => init_any 286 0 0 w)
          rw [i2_0.1, i2_0.2.1, i2_0.2.2] at HI
          go_wp2_with (fail)
          refine (HI.out _).mono ?_
          rintro e w1 ⟨rfl, b1⟩
          have BB := Lib.hid ((Below.refl _ wr).alloc (Nat.le_refl _) _ |>.trans (b1.mono (by simp)))
          have B4 := Lib.hid (B3.out.trans (BB.out.mono s3))
          have X4 := Lib.hid (X3.out.below BB.out X3.out.lt)
          clear b1 BB
          go_wp2_with (fail)
          go_roundw
          case rel => first | exact ⟨1, by omega, rfl, X4.out.alloc _, B4.out.alloc B4.out.size _⟩ | ((repeat apply Exists.intro); exact ⟨⟨1, by omega, rfl, X4.out.alloc _, B4.out.alloc B4.out.size _⟩, rfl⟩)
          case measure => simp [intOf]
        · have c0 : wr.cell? ⟨wo.heap.size, 3, none⟩ = some (.int .i64 0) := X3.out.cell 3; have c1 : wr.cell? ⟨wo.heap.size, 4, none⟩ = some (.int .i64 4) := X3.out.cell 4; have c2 : wr.cell? ⟨wo.heap.size, 5, none⟩ = some (.int .i64 0) := X3.out.cell 5
          have HI := Lib.hid (fun w => init_any 0 4 0 w)
          rw [i2_1.1, i2_1.2.1, i2_1.2.2] at HI
          go_wp2_with (fail)
          refine (HI.out _).mono ?_
          rintro e w1 ⟨rfl, b1⟩
          have BB := Lib.hid ((Below.refl _ wr).alloc (Nat.le_refl _) _ |>.trans (b1.mono (by simp)))
          have B4 := Lib.hid (B3.out.trans (BB.out.mono s3))
          have X4 := Lib.hid (X3.out.below BB.out X3.out.lt)
          clear b1 BB
          go_wp2_with (fail)
          go_roundw
          case rel => first | exact ⟨2, by omega, rfl, X4.out.alloc _, B4.out.alloc B4.out.size _⟩ | ((repeat apply Exists.intro); exact ⟨⟨2, by omega, rfl, X4.out.alloc _, B4.out.alloc B4.out.size _⟩, rfl⟩)
          case measure => simp [intOf]
        · have c0 : wr.cell? ⟨wo.heap.size, 6, none⟩ = some (.int .i64 0) := X3.out.cell 6; have c1 : wr.cell? ⟨wo.heap.size, 7, none⟩ = some (.int .i64 0) := X3.out.cell 7; have c2 : wr.cell? ⟨wo.heap.size, 8, none⟩ = some (.int .i64 52) := X3.out.cell 8
          have HI := Lib.hid (fun w => init_any 0 0 52 w)
          rw [i2_2.1, i2_2.2.1, i2_2.2.2] at HI
          go_wp2_with (fail)
          refine (HI.out _).mono ?_
          rintro e w1 ⟨rfl, b1⟩
          have BB := Lib.hid ((Below.refl _ wr).alloc (Nat.le_refl _) _ |>.trans (b1.mono (by simp)))
          have B4 := Lib.hid (B3.out.trans (BB.out.mono s3))
          have X4 := Lib.hid (X3.out.below BB.out X3.out.lt)
          clear b1 BB
          go_wp2_with (fail)
          go_roundw
          case rel => first | exact ⟨3, by omega, rfl, X4.out.alloc _, B4.out.alloc B4.out.size _⟩ | ((repeat apply Exists.intro); exact ⟨⟨3, by omega, rfl, X4.out.alloc _, B4.out.alloc B4.out.size _⟩, rfl⟩)
          case measure => simp [intOf]
        · have c0 : wr.cell? ⟨wo.heap.size, 9, none⟩ = some (.int .i64 (-1)) := X3.out.cell 9; have c1 : wr.cell? ⟨wo.heap.size, 10, none⟩ = some (.int .i64 0) := X3.out.cell 10; have c2 : wr.cell? ⟨wo.heap.size, 11, none⟩ = some (.int .i64 0) := X3.out.cell 11
          have HI := Lib.hid (fun w => init_any (-1) 0 0 w)
          rw [i2_3.1, i2_3.2.1, i2_3.2.2] at HI
          go_wp2_with (fail)
          refine (HI.out _).mono ?_
          rintro e w1 ⟨rfl, b1⟩
          have BB := Lib.hid ((Below.refl _ wr).alloc (Nat.le_refl _) _ |>.trans (b1.mono (by simp)))
          have B4 := Lib.hid (B3.out.trans (BB.out.mono s3))
          have X4 := Lib.hid (X3.out.below BB.out X3.out.lt)
          clear b1 BB
          go_wp2_with (fail)
          go_roundw
          case rel => first | exact ⟨4, by omega, rfl, X4.out.alloc _, B4.out.alloc B4.out.size _⟩ | ((repeat apply Exists.intro); exact ⟨⟨4, by omega, rfl, X4.out.alloc _, B4.out.alloc B4.out.size _⟩, rfl⟩)
          case measure => simp [intOf]
        · have c0 : wr.cell? ⟨wo.heap.size, 12, none⟩ = some (.int .i64 0) := X3.out.cell 12; have c1 : wr.cell? ⟨wo.heap.size, 13, none⟩ = some (.int .i64 (-1)) := X3.out.cell 13; have c2 : wr.cell? ⟨wo.heap.size, 14, none⟩ = some (.int .i64 0) := X3.out.cell 14
          have HI := Lib.hid (fun w => init_any 0 (-1) 0 w)
          rw [i2_4.1, i2_4.2.1, i2_4.2.2] at HI
          go_wp2_with (fail)
          refine (HI.out _).mono ?_
          rintro e w1 ⟨rfl, b1⟩
          have BB := Lib.hid ((Below.refl _ wr).alloc (Nat.le_refl _) _ |>.trans (b1.mono (by simp)))
          have B4 := Lib.hid (B3.out.trans (BB.out.mono s3))
          have X4 := Lib.hid (X3.out.below BB.out X3.out.lt)
          clear b1 BB
          go_wp2_with (fail)
          go_roundw
          case rel => first | exact ⟨5, by omega, rfl, X4.out.alloc _, B4.out.alloc B4.out.size _⟩ | ((repeat apply Exists.intro); exact ⟨⟨5, by omega, rfl, X4.out.alloc _, B4.out.alloc B4.out.size _⟩, rfl⟩)
          case measure => simp [intOf]
        · have c0 : wr.cell? ⟨wo.heap.size, 15, none⟩ = some (.int .i64 0) := X3.out.cell 15; have c1 : wr.cell? ⟨wo.heap.size, 16, none⟩ = some (.int .i64 0) := X3.out.cell 16; have c2 : wr.cell? ⟨wo.heap.size, 17, none⟩ = some (.int .i64 (-1)) := X3.out.cell 17
          have HI := Lib.hid (fun w => init_any 0 0 (-1) w)
          rw [i2_5.1, i2_5.2.1, i2_5.2.2] at HI
          go_wp2_with (fail)
          refine (HI.out _).mono ?_
          rintro e w1 ⟨rfl, b1⟩
          have BB := Lib.hid ((Below.refl _ wr).alloc (Nat.le_refl _) _ |>.trans (b1.mono (by simp)))
          have B4 := Lib.hid (B3.out.trans (BB.out.mono s3))
          have X4 := Lib.hid (X3.out.below BB.out X3.out.lt)
          clear b1 BB
          go_wp2_with (fail)
          go_roundw
          case rel => first | exact ⟨6, by omega, rfl, X4.out.alloc _, B4.out.alloc B4.out.size _⟩ | ((repeat apply Exists.intro); exact ⟨⟨6, by omega, rfl, X4.out.alloc _, B4.out.alloc B4.out.size _⟩, rfl⟩)
          case measure => simp [intOf]
        · go_wp2_with (fail)
          refine (HN.out _).mono ?_
          rintro e v10 ⟨rfl, t10, b10⟩
          have B10 := Lib.hid (B3.out.trans (b10.mono s3))
          have T10 := Lib.hid t10
          clear t10 b10
          go_wp2_with (fail)
          refine (HS1.out _ _ T10.out).mono ?_
          rintro e v11 ⟨rfl, t11, f11⟩
          have B11 := Lib.hid (B10.out.trans (f11.below s3 B10.out.size))
          have T11 := Lib.hid t11
          clear t11 f11
          go_wp2_with (fail)
          refine (HS2.out _ _ T11.out).mono ?_
          rintro e v12 ⟨rfl, t12, f12⟩
          have B12 := Lib.hid (B11.out.trans (f12.below s3 B11.out.size))
          have T12 := Lib.hid t12
          clear t12 f12
          go_wp2_with (fail)
          refine (HS3.out _ _ T12.out).mono ?_
          rintro e v13 ⟨rfl, t13, f13⟩
          have B13 := Lib.hid (B12.out.trans (f13.below s3 B12.out.size))
          have T13 := Lib.hid t13
          clear t13 f13
          go_wp2_with (fail)
          refine (HS4.out _ _ T13.out).mono ?_
          rintro e v14 ⟨rfl, t14, f14⟩
          have B14 := Lib.hid (B13.out.trans (f14.below s3 B13.out.size))
          have T14 := Lib.hid t14
          clear t14 f14
          go_wp2_with (fail)
          refine (HS5.out _ _ T14.out).mono ?_
          rintro e v15 ⟨rfl, t15, f15⟩
          have B15 := Lib.hid (B14.out.trans (f15.below s3 B14.out.size))
          have T15 := Lib.hid t15
          clear t15 f15
          go_wp2_with (fail)
          refine (HST.out _ _ T15.out).mono ?_
          rintro e v16 ⟨rfl, b16⟩
          have B16 := Lib.hid (B15.out.trans (b16.mono B15.out.size))
          clear b16
          go_wp2_with (fail)
          refine (new_no 4 0 (by omega) _).mono ?_
          rintro e v17 ⟨rfl, b17⟩
          have B17 := Lib.hid ((B16.out.alloc B16.out.size _).trans (b17.mono (by have := B16.out.size; simp; omega)))
          clear b17
          go_wp2_with (fail)
          refine (new_no 0 52 (by omega) _).mono ?_
          rintro e v18 ⟨rfl, b18⟩
          have B18 := Lib.hid (B17.out.trans (b18.mono B17.out.size))
          clear b18
          go_wp2_with (fail)
          refine (state_nil _ _).mono ?_
          rintro e v19 ⟨rfl, b19⟩
          have B19 := Lib.hid (B18.out.trans (b19.mono B18.out.size))
          clear b19
          go_wp2_with (fail)
          refine (see_nil _ _ _).mono ?_
          rintro e v20 ⟨rfl, b20⟩
          have B20 := Lib.hid ((B19.out.alloc B19.out.size _).trans (b20.mono (by have := B19.out.size; simp; omega)))
          clear b20
          go_wp2_with (fail)
          refine (copy_nil _).mono ?_
          rintro e v21 ⟨rfl, b21⟩
          have B21 := Lib.hid (B20.out.trans (b21.mono B20.out.size))
          clear b21
          go_wp2_with (fail)
          refine (alive_yes _).mono ?_
          rintro e v22 ⟨rfl, b22⟩
          have B22 := Lib.hid (B21.out.trans (b22.mono B21.out.size))
          clear b22
          go_wp2_with (fail)
          go_ret
          exact ⟨rfl, B22.out⟩


/-! ### The row -/
set_option maxRecDepth 100000 in
theorem lifted (os : Os) (started : os.Started) (H : Type) (enc : TypeId × Value → H) :
    ReturnsInHanded {} Try.checked os 7 .any (Rows.ctxNamesSpec.pre6 enc Try.prog Try.f7 Rows.ctxNamesRow.domain false) (Rows.ctxNamesSpec.post enc Try.prog Try.f7 false true false false) := by
  refine returnsInHanded_of_change (C := Try.checked) own started (by kernel_rfl) Try.func7
    (ChangeSpec.witness6 (enc := enc) (C := Try.checked) false ⟨#[], #[], []⟩ 8 (by kernel_rfl) (by kernel_rfl) (by kernel_rfl) (by kernel_rfl)) ?_
  intro W base args ds gs before hval0 hW hcnd _
  have hval : ∀ (j : Nat) t v, Try.f7.params[j]? = some t → args[j]? = some v → Value.okWide Try.prog W .any base t v := hval0
  have hW' := hW
  obtain ⟨p, q, hA0, hV, rfl, hfz, hnd⟩ := hW
  have hA : DataW.TrodAll enc Try.prog W 0 (fun _ => true) true Try.f7.params.toList args.toList ds p := hA0
  rw [Try.params7] at hA hval
  obtain ⟨rfl, rfl, rfl⟩ := trodAll_none hA
  obtain ⟨rfl, rfl⟩ := trodVars_none hV
  clear hA0 hval0
  simp only [List.append_nil] at hW'
  refine (walk  W).mono fun e W' ⟨he, hg⟩ => ?_
  subst he
  exact ⟨_, rfl, _, _, _, [], _, [], hW', trodAll_mk1 (shut_bool Try.underlying4 _), trodAll_mk0, rfl, hg.frame _, fun h => by cases h⟩

theorem over : Rows.ctxNamesRow.holds Try.pinned (OpenSpec.ofChange Rows.ctxNamesSpec) :=
  OpenClaim.holds_of_wide 7 Try.f7 rfl rfl rfl rfl rfl rfl rfl ⟨rfl, rfl, rfl, rfl, rfl⟩ rfl rfl rfl rfl rfl (by kernel_rfl) Try.func7 (by kernel_rfl)
    (of_decide_eq_true (by kernel_rfl)) (by unfold Func.isWrapper; first | (rw [if_pos (by decide +kernel)]; kernel_rfl) | (rw [if_neg (by decide +kernel)]; exact ⟨rfl, rfl⟩))
    (fun os started H enc _ => lifted os started H enc)

/-- The statement. -/
theorem proved : Rows.CtxNamesSaid :=
  over
#print axioms proved
end Go.Proofs.Ytomeiofieheggaa.ctxNames
