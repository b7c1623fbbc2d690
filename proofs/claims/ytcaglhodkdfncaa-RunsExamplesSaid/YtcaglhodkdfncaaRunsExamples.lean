/- RunsExamples: the examples of the chapter; no conditions. -/
import Derived.Test.YtcaglhodkdfncaaRows
import Derived.WalkKit
import Derived.ProofKit
import Derived.OpenShut
import Derived.Below
import Derived.Deep.RegionHeld3
import Derived.Deep.DeepCutAuto
import Derived.Test.YtcaglhodkdfncaaEx
import Derived.ShutString
namespace Go.Proofs.Ytcaglhodkdfncaa.runsExamples
open Go.ChangeShapes Go.WideShapes Go.ChangeAt Go.RowKit
open Go.ChangeMaps (open_string shut_string)
set_option linter.unusedVariables false

theorem own : ownKnob Try.prog.godebug = none := by kernel_rfl

/-! ### The walk -/
theorem l5 : lev [5, 0, 0, 0] = [5] ∧ zer [5, 0, 0, 0] = 0 ∧ bef [5, 0, 0, 0] = [] := by decide
theorem l0 : lev [0, 0, 0, 0] = [] ∧ zer [0, 0, 0, 0] = 0 ∧ bef [0, 0, 0, 0] = [] := by decide
theorem l16 : lev ones16 = ones16 ∧ zer ones16 = 0 ∧ bef ones16 = zeros15 := by decide
theorem o16 : onesL ones16 = 3 := by decide
theorem o4 : ((onesL [-1, 1, 2, 1] : Nat) : Int) = 2 := by decide
theorem fits4 (a b c d : Int) (ha : -32768 ≤ a ∧ a ≤ 32768) (hb : -32768 ≤ b ∧ b ≤ 32768) (hc : -32768 ≤ c ∧ c ≤ 32768) (hd : -32768 ≤ d ∧ d ≤ 32768) : Fits [a, b, c, d] := by
  intro v hv
  simp at hv
  omega
theorem ints_zeros (w : World) : Ints (w.alloc (.cells (zeros15.map (Value.int .i64)).toArray 3)) (.slice (some ⟨w.heap.size, 0, none⟩) 15 15) zeros15 := ints_lit rfl zeros15 (by decide) 15
theorem fits16' : Fits ones16 := by
  intro v hv
  unfold ones16 at hv
  have := List.eq_of_mem_replicate hv
  omega

set_option maxRecDepth 100000 in
set_option maxHeartbeats 16000000 in
theorem walk  (w : World) :
    Calls Try.prog 9 #[] w fun e w' => e = .returned (.bool true) ∧ Below w.heap.size w w' := by
  have hm15 : ∀ w : World, (Instr.makeSlice 22 (.int .i64 15) (.int .i64 15)).run Try.prog w = .ok (.slice (some ⟨w.heap.size, 0, none⟩) 15 15) (w.alloc (.cells ((zeros15.map (Value.int .i64)).toArray) 3)) := fun _ => by kernel_rfl
  go_enter Try.func9, Try.ntmps9
  go_wp2_with (fail)
  refine (of_lit _ [5, 0, 0, 0] [5] [] 0 l5 (fits4 _ _ _ _ (by omega) (by omega) (by omega) (by omega)) (.inl rfl) _ ?_).mono ?_
  · exact ints_lit rfl [5, 0, 0, 0] (by decide) 4
  rintro e w1 ⟨⟨a1, c1, a2, c2, rfl, iL, iB⟩, b1⟩
  simp only [List.length_cons, List.length_nil, Nat.zero_add] at iL iB ⊢
  have L1 := Lib.hid iL
  have M1 := Lib.hid iB
  have B1 := Lib.hid (((Below.refl _ w).alloc (Nat.le_refl _) _).trans (b1.mono (by simp)))
  have s1 := B1.out.size
  clear iL iB b1
  go_wp2_with (fail)
  refine (of_lit _ [0, 0, 0, 0] [] [] 0 l0 (fits4 _ _ _ _ (by omega) (by omega) (by omega) (by omega)) (.inl rfl) _ ?_).mono ?_
  · exact ints_lit (by simp) [0, 0, 0, 0] (by decide) 4
  rintro e w2 ⟨⟨a3, c3, a4, c4, rfl, iL, iB⟩, b2⟩
  simp only [List.length_nil] at iL iB ⊢
  have b2' : Below w1.heap.size w1 w2 := (((Below.refl _ w1).alloc (Nat.le_refl _) _).alloc (by simp) _).trans (b2.mono (by simp <;> omega))
  have X1 := Lib.hid (((Box.new w1 25 #[.slice a1 1 c1, .int .i64 0, .slice a2 0 c2]).alloc (.cells #[.int .i64 0, .int .i64 0, .int .i64 0, .int .i64 0] 3)).below b2 (by simp <;> omega))
  have L2 := Lib.hid iL
  have M2 := Lib.hid iB
  have L1' := Lib.hid (L1.out.below b2')
  have M1' := Lib.hid (M1.out.below b2')
  have B2 := Lib.hid (B1.out.trans (b2'.mono s1))
  have s2 := B2.out.size
  have t2 := X1.out.lt
  clear iL iB b2 b2' L1 M1
  go_wp2_with (fail)
  refine (ones_16 _).mono ?_
  rintro e w3 ⟨⟨a5, c5, rfl, i5⟩, b3⟩
  have b3' : Below w2.heap.size w2 w3 := ((Below.refl _ w2).alloc (Nat.le_refl _) _).trans (b3.mono (by simp))
  have X2 := Lib.hid ((Box.new w2 25 #[.slice a3 0 c3, .int .i64 0, .slice a4 0 c4]).below b3 (by simp))
  have I5 := Lib.hid i5
  have s3 := b3'.size
  have B3' := Lib.hid b3'
  clear i5 b3 b3'
  go_wp2_with (fail)
  refine (of_lit _ ones16 ones16 zeros15 0 l16 fits16' (.inr (.inr rfl)) _ ?_).mono ?_
  · exact I5.out
  rintro e w4 ⟨⟨a6, c6, a7, c7, rfl, iL, iB⟩, b4⟩
  simp only [ones16, zeros15, List.length_replicate] at iL iB ⊢
  have b4' : Below w2.heap.size w2 w4 := B3'.out.trans (b4.mono s3)
  have X1' := Lib.hid (X1.out.below b4' t2)
  have X2' := Lib.hid (X2.out.below b4 X2.out.lt)
  have t3 := X2.out.lt
  have L3 := Lib.hid iL
  have M3 := Lib.hid iB
  have LL1 := Lib.hid (L1'.out.below b4')
  have MM1 := Lib.hid (M1'.out.below b4')
  have LL2 := Lib.hid (L2.out.below b4')
  have MM2 := Lib.hid (M2.out.below b4')
  have B4 := Lib.hid (B2.out.trans (b4'.mono s2))
  have s4 := b4.size
  clear iL iB b4 b4' L1' M1' L2 M2 X1 X2
  go_upto_region 4 with fail
  have hbw : Below w4.heap.size w4 (w4.alloc (.cells #[.slice a6 16 c6, .int .i64 0, .slice a7 15 c7] 25)) := (Below.refl _ w4).alloc (Nat.le_refl _) _
  have X3 := Lib.hid (Box.new w4 25 #[.slice a6 16 c6, .int .i64 0, .slice a7 15 c7])
  have hW1 : w4.heap.size + 1 = (w4.alloc (.cells #[.slice a6 16 c6, .int .i64 0, .slice a7 15 c7] 25)).heap.size := by simp
  generalize w4.alloc (.cells #[.slice a6 16 c6, .int .i64 0, .slice a7 15 c7] 25) = W at *
  have HW := Lib.hid (show w4.heap.size < W.heap.size from by omega)
  have NIN := Lib.hid (show ∀ w', Below W.heap.size W w' → (Below W.heap.size W w' ∧ w'.cell? ⟨w1.heap.size, 0, none⟩ = some (.slice a1 1 c1) ∧ w'.cell? ⟨w1.heap.size, 1, none⟩ = some (.int .i64 0) ∧ w'.cell? ⟨w1.heap.size, 2, none⟩ = some (.slice a2 0 c2)
      ∧ w'.cell? ⟨w2.heap.size, 0, none⟩ = some (.slice a3 0 c3) ∧ w'.cell? ⟨w2.heap.size, 1, none⟩ = some (.int .i64 0) ∧ w'.cell? ⟨w2.heap.size, 2, none⟩ = some (.slice a4 0 c4)
      ∧ w'.cell? ⟨w4.heap.size, 0, none⟩ = some (.slice a6 16 c6) ∧ w'.cell? ⟨w4.heap.size, 1, none⟩ = some (.int .i64 0) ∧ w'.cell? ⟨w4.heap.size, 2, none⟩ = some (.slice a7 15 c7)) from by
    intro w' hb
    have hw := HW.out
    have hbb : Below w4.heap.size w4 w' := hbw.trans (hb.mono (by omega))
    have e1 := X1'.out.below hbb X1'.out.lt
    have e2 := X2'.out.below hbb X2'.out.lt
    have e3 := X3.out.below hb X3.out.lt
    exact ⟨hb, by simpa using e1.cell 0, by simpa using e1.cell 1, by simpa using e1.cell 2, by simpa using e2.cell 0, by simpa using e2.cell 1, by simpa using e2.cell 2, by simpa using e3.cell 0, by simpa using e3.cell 1, by simpa using e3.cell 2⟩)
  have CAR := Lib.hid (show ∀ w', Below W.heap.size W w' → Below w4.heap.size w4 w' from fun w' hb => hbw.trans (hb.mono (by have := HW.out; omega)))
  have E1 := Lib.hid (show ∀ w' g, Below W.heap.size W w' → Ints w' (.slice (some ⟨g, 0, none⟩) 1 1) [5] → Calls Try.prog 13 #[.agg #[.slice a1 1 c1, .int .i64 0, .slice a2 0 c2], .agg #[.slice (some ⟨g, 0, none⟩) 1 1, .int .i64 0, .slice none 0 0]] w' fun e w'' => e = .returned (.bool true) ∧ Below W.heap.size W w'' from fun w' g hb hi =>
    (equalRuns_same _ _ _ _ 0 [5] [] w' (LL1.out.below (CAR.out w' hb)) (MM1.out.below (CAR.out w' hb)) hi (ints_nil _)).mono fun e w'' ⟨he, hb2⟩ => ⟨he, hb.trans (hb2.mono hb.size)⟩)
  have E2 := Lib.hid (show ∀ w', Below W.heap.size W w' → Calls Try.prog 13 #[.agg #[.slice a3 0 c3, .int .i64 0, .slice a4 0 c4], .agg #[.slice none 0 0, .int .i64 0, .slice none 0 0]] w' fun e w'' => e = .returned (.bool true) ∧ Below W.heap.size W w'' from fun w' hb =>
    (equalRuns_same _ _ _ _ 0 [] [] w' (LL2.out.below (CAR.out w' hb)) (MM2.out.below (CAR.out w' hb)) (ints_nil _) (ints_nil _)).mono fun e w'' ⟨he, hb2⟩ => ⟨he, hb.trans (hb2.mono hb.size)⟩)
  have E3 := Lib.hid (show ∀ w' a c g, Below W.heap.size W w' → Ints w' (.slice a 16 c) ones16 → Ints w' (.slice (some ⟨g, 0, none⟩) 15 15) zeros15 → Calls Try.prog 13 #[.agg #[.slice a6 16 c6, .int .i64 0, .slice a7 15 c7], .agg #[.slice a 16 c, .int .i64 0, .slice (some ⟨g, 0, none⟩) 15 15]] w' fun e w'' => e = .returned (.bool true) ∧ Below W.heap.size W w'' from fun w' a c g hb hi hj =>
    (equalRuns_same _ _ _ _ 0 ones16 zeros15 w' (L3.out.below (CAR.out w' hb)) (M3.out.below (CAR.out w' hb)) hi hj).mono fun e w'' ⟨he, hb2⟩ => ⟨he, hb.trans (hb2.mono hb.size)⟩)
  have E17 := Lib.hid (show ∀ w', Below W.heap.size W w' → Calls Try.prog 17 #[.agg #[.slice a6 16 c6, .int .i64 0, .slice a7 15 c7]] w' fun e w'' => e = .returned (.int .i64 3) ∧ Below W.heap.size W w'' from fun w' hb =>
    (ones_any 17 (.inl rfl) _ 0 a7 15 c7 ones16 w' (L3.out.below (CAR.out w' hb))).mono fun e w'' ⟨he, hb2⟩ => ⟨by rw [he, o16]; rfl, hb.trans (hb2.mono hb.size)⟩)
  have E21 := Lib.hid (show ∀ w', Below W.heap.size W w' → Calls Try.prog 21 #[.int .i64 16] w' fun e w'' => (∃ a c, e = .returned (.slice a 16 c) ∧ Ints w'' (.slice a 16 c) ones16) ∧ Below W.heap.size W w'' ∧ Below w'.heap.size w' w'' from fun w' hb =>
    (ones_16 w').mono fun e w'' ⟨he, hb2⟩ => ⟨he, hb.trans (hb2.mono hb.size), hb2⟩)
  have hb0 := Below.refl W.heap.size W
  obtain ⟨_, x0, x1, x2, y0, y1, y2, z0, z1, z2⟩ := NIN.out W hb0
  have BW := Lib.hid (B4.out.trans (hbw.mono B4.out.size))
  clear hW1 hbw
  go_cut [66] (fun s66 wx => s66 = .bool false ∧ Below w.heap.size w wx)
  case first =>
    go_region_held3 (fun w' => Below W.heap.size W w' ∧ w'.cell? ⟨w1.heap.size, 0, none⟩ = some (.slice a1 1 c1) ∧ w'.cell? ⟨w1.heap.size, 1, none⟩ = some (.int .i64 0) ∧ w'.cell? ⟨w1.heap.size, 2, none⟩ = some (.slice a2 0 c2)
      ∧ w'.cell? ⟨w2.heap.size, 0, none⟩ = some (.slice a3 0 c3) ∧ w'.cell? ⟨w2.heap.size, 1, none⟩ = some (.int .i64 0) ∧ w'.cell? ⟨w2.heap.size, 2, none⟩ = some (.slice a4 0 c4)
      ∧ w'.cell? ⟨w4.heap.size, 0, none⟩ = some (.slice a6 16 c6) ∧ w'.cell? ⟨w4.heap.size, 1, none⟩ = some (.int .i64 0) ∧ w'.cell? ⟨w4.heap.size, 2, none⟩ = some (.slice a7 15 c7))
      (exact NIN.out _ (by repeat (first | assumption | exact And.left (by assumption) | refine Below.drew ?_ | refine Below.alloc ?_ (by first | exact bb.size | exact Nat.le_refl _ | simp) _)))
      (first
        | (go_at_call 13; (with_reducible refine (E2.out _ (by first | assumption | exact And.left (by assumption))).mono ?_); rintro e v8 ⟨rfl, bb⟩)
        | (go_at_call 13; (with_reducible refine (E1.out _ _ (by first | assumption | exact And.left (by assumption)) (by exact Ints.below (ints_lit (by simp) [5] (by decide) 1) (Below.drew (Below.refl _ _)))).mono ?_); rintro e v8 ⟨rfl, bb⟩)
        | (go_at_call 21; (with_reducible refine (E21.out _ (by first | assumption | exact And.left (by assumption))).mono ?_); rintro e v9 ⟨⟨ao, co, rfl, io⟩, bb, bo⟩; have HIo := Lib.hid io; have HBo := Lib.hid bo; clear io bo)
        | (go_at_call 13; (with_reducible refine (E3.out _ _ _ _ (by first | assumption | exact And.left (by assumption)) (by first | exact HIo.out | exact Ints.below HIo.out ((Below.refl _ v9).alloc (Nat.le_refl _) _)) (by first | exact Ints.below (ints_zeros _) HBo.out | exact ints_zeros _)).mono ?_); rintro e v10 ⟨rfl, bb⟩)
        | (go_at_call 17; (with_reducible refine (E17.out _ (by first | assumption | exact And.left (by assumption))).mono ?_); rintro e v11 ⟨rfl, bb⟩))
    all_goals
      have BF := Lib.hid (BW.out.trans (bb.mono BW.out.size))
      go_wp2_with fail
      go_meet
      exact ⟨rfl, BF.out⟩
  case rest =>
    obtain ⟨rfl, hB⟩ := hcut
    have B0 := Lib.hid hB
    clear hB
    go_wp2_with (fail)
    refine (ones_any 17 (.inl rfl) _ 0 none 0 0 [-1, 1, 2, 1] _ ?_).mono ?_
    · exact ints_lit (by simp) [-1, 1, 2, 1] (by decide) 4
    rintro e v1 ⟨rfl, bx⟩
    rw [o4]
    have B1 := Lib.hid ((B0.out.alloc B0.out.size _).trans (bx.mono (by have := B0.out.size; simp; omega)))
    clear bx
    go_wp2_with (fail)
    refine (block_lit 4 _ _ 2 [-1, 3] [1] [0, 3, 0, -1] 0 spec_1 (by decide) (by decide) (by decide) _ ?_ ?_).mono ?_
    · exact Ints.below (ints_lit (by simp) [-1, 3] (by decide) 2) ((Below.refl _ _).alloc (Nat.le_refl _) _)
    · exact ints_lit (by simp) [1] (by decide) 1
    rintro e v2 ⟨⟨ax, cx, rfl, ix⟩, bx⟩
    simp only [List.length_cons, List.length_nil, Nat.zero_add, Nat.reduceAdd] at ix ⊢
    have B2 := Lib.hid (((B1.out.alloc B1.out.size _).alloc (by have := B1.out.size; simp; omega) _).trans (bx.mono (by have := B1.out.size; simp; omega)))
    have I2 := Lib.hid (ix.below ((Below.refl _ v2).alloc (Nat.le_refl _) (.cells #[.int .i64 0, .int .i64 3, .int .i64 0, .int .i64 (-1)] 3)))
    clear bx ix
    go_wp2_with (fail)
    refine (equalInts_same _ _ [0, 3, 0, -1] _ ?_ ?_).mono ?_
    · exact I2.out
    · exact ints_lit (by simp) [0, 3, 0, -1] (by decide) 4
    rintro e v3 ⟨rfl, bx⟩
    have B3 := Lib.hid ((B2.out.alloc B2.out.size _).trans (bx.mono (by have := B2.out.size; simp; omega)))
    clear bx
    go_wp2_with (fail)
    refine (block_lit 4 _ _ 1 [-1, 3] [2] [] 4 spec_2 (by decide) (by decide) (by decide) _ ?_ ?_).mono ?_
    · exact Ints.below (ints_lit (by simp) [-1, 3] (by decide) 2) ((Below.refl _ _).alloc (Nat.le_refl _) _)
    · exact ints_lit (by simp) [2] (by decide) 1
    rintro e v4 ⟨⟨ay, cy, rfl, ix⟩, bx⟩
    have B4' := Lib.hid (((B3.out.alloc B3.out.size _).alloc (by have := B3.out.size; simp; omega) _).trans (bx.mono (by have := B3.out.size; simp; omega)))
    clear bx ix
    go_wp2_with (fail)
    refine (block_lit 4 _ _ 0 [0] [] [] 4 spec_3 (by decide) (by decide) (by decide) _ ?_ ?_).mono ?_
    · exact ints_lit (by simp) [0] (by decide) 1
    · exact ints_nil _
    rintro e v5 ⟨⟨ay, cy, rfl, ix⟩, bx⟩
    have B5 := Lib.hid ((B4'.out.alloc B4'.out.size _).trans (bx.mono (by have := B4'.out.size; simp; omega)))
    clear bx ix
    go_wp2_with (fail)
    refine (of_size _ [1, 2, 3, 4, 5] _ ?_ (by decide) (by decide) (by decide)).mono ?_
    · exact ints_lit (by simp) [1, 2, 3, 4, 5] (by decide) 5
    rintro e v6 ⟨rfl, bx⟩
    unfold nilRuns
    have B6 := Lib.hid ((B5.out.alloc B5.out.size _).trans (bx.mono (by have := B5.out.size; simp; omega)))
    clear bx
    go_wp2_with (fail)
    refine (of_range _ [32769, 0, 0, 0] _ ?_ (fun h => by have := h 32769 (by simp); omega) (.inl rfl)).mono ?_
    · exact ints_lit (by simp) [32769, 0, 0, 0] (by decide) 4
    rintro e v7 ⟨rfl, bx⟩
    unfold nilRuns
    have B7 := Lib.hid ((B6.out.alloc B6.out.size _).trans (bx.mono (by have := B6.out.size; simp; omega)))
    clear bx
    go_wp2_with (fail)
    refine (block_lit 16 _ _ 16 [1] [] [] 4 spec_4 (by decide) (by decide) (by decide) _ ?_ ?_).mono ?_
    · exact ints_lit (by simp) [1] (by decide) 1
    · exact ints_nil _
    rintro e v8 ⟨⟨ay, cy, rfl, ix⟩, bx⟩
    have B8 := Lib.hid (((B7.out.alloc B7.out.size _).alloc (by have := B7.out.size; simp; omega) _).trans (bx.mono (by have := B7.out.size; simp; omega)))
    clear bx ix
    go_wp2_with (fail)
    refine (block_lit 5 _ _ 0 [32769] [] [] 2 spec_5 (by decide) (by decide) (by decide) _ ?_ ?_).mono ?_
    · exact ints_lit (by simp) [32769] (by decide) 1
    · exact ints_nil _
    rintro e v9 ⟨⟨ay, cy, rfl, ix⟩, bx⟩
    have B9 := Lib.hid ((B8.out.alloc B8.out.size _).trans (bx.mono (by have := B8.out.size; simp; omega)))
    clear bx ix
    go_wp2_with (fail)
    refine (block_lit 4 _ _ (-1) [-32769] [] [] 3 spec_6 (by decide) (by decide) (by decide) _ ?_ ?_).mono ?_
    · exact ints_lit (by simp) [-32769] (by decide) 1
    · exact ints_nil _
    rintro e v10 ⟨⟨ay, cy, rfl, ix⟩, bx⟩
    have B10 := Lib.hid ((B9.out.alloc B9.out.size _).trans (bx.mono (by have := B9.out.size; simp; omega)))
    clear bx ix
    go_wp2_with (fail)
    refine (awake_yes _).mono ?_
    rintro e v11 ⟨rfl, bx⟩
    have B11 := Lib.hid (B10.out.trans (bx.mono B10.out.size))
    clear bx
    go_wp2_with (fail)
    go_ret
    exact ⟨rfl, B11.out⟩


/-! ### The row -/
set_option maxRecDepth 100000 in
theorem lifted (os : Os) (started : os.Started) (H : Type) (enc : TypeId × Value → H) :
    ReturnsInHanded {} Try.checked os 9 .any (Rows.runsExamplesSpec.pre6 enc Try.prog Try.f9 Rows.runsExamplesRow.domain false) (Rows.runsExamplesSpec.post enc Try.prog Try.f9 false true false false) := by
  refine returnsInHanded_of_change (C := Try.checked) own started (by kernel_rfl) Try.func9
    (ChangeSpec.witness6 (enc := enc) (C := Try.checked) false ⟨#[], #[], []⟩ 8 (by kernel_rfl) (by kernel_rfl) (by kernel_rfl) (by kernel_rfl)) ?_
  intro W base args ds gs before hval0 hW hcnd _
  have hval : ∀ (j : Nat) t v, Try.f9.params[j]? = some t → args[j]? = some v → Value.okWide Try.prog W .any base t v := hval0
  have hW' := hW
  obtain ⟨p, q, hA0, hV, rfl, hfz, hnd⟩ := hW
  have hA : DataW.TrodAll enc Try.prog W 0 (fun _ => true) true Try.f9.params.toList args.toList ds p := hA0
  rw [Try.params9] at hA hval
  obtain ⟨rfl, rfl, rfl⟩ := trodAll_none hA
  obtain ⟨rfl, rfl⟩ := trodVars_none hV
  clear hA0 hval0
  simp only [List.append_nil] at hW'
  refine (walk  W).mono fun e W' ⟨he, hg⟩ => ?_
  subst he
  exact ⟨_, rfl, _, _, _, [], _, [], hW', trodAll_mk1 (shut_bool Try.underlying4 _), trodAll_mk0, rfl, hg.frame _, fun h => by cases h⟩

theorem over : Rows.runsExamplesRow.holds Try.pinned (OpenSpec.ofChange Rows.runsExamplesSpec) :=
  OpenClaim.holds_of_wide 9 Try.f9 rfl rfl rfl rfl rfl rfl rfl ⟨rfl, rfl, rfl, rfl, rfl⟩ rfl rfl rfl rfl rfl (by kernel_rfl) Try.func9 (by kernel_rfl)
    (of_decide_eq_true (by kernel_rfl)) (by unfold Func.isWrapper; first | (rw [if_pos (by decide +kernel)]; kernel_rfl) | (rw [if_neg (by decide +kernel)]; exact ⟨rfl, rfl⟩))
    (fun os started H enc _ => lifted os started H enc)

/-- The statement. -/
theorem proved : Rows.RunsExamplesSaid :=
  over
#print axioms proved
end Go.Proofs.Ytcaglhodkdfncaa.runsExamples
