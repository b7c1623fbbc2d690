/- CtxTwins: a table and its copy, and two tables, go their own ways: what one sees does not change the other, and refused bits change nothing; no conditions. -/
import Derived.Test.YtomeiofieheggaaRows
import Derived.WalkKit
import Derived.ProofKit
import Derived.OpenShut
import Derived.ShutString
import Derived.ChangeOld
import Derived.Below
import Derived.Deep.RegionHeld3
import Derived.Deep.DeepCutAuto
import Derived.Test.YtomeiofieheggaaSees
namespace Go.Proofs.Ytomeiofieheggaa.ctxTwins
open Go.ChangeShapes Go.WideShapes Go.ChangeAt Go.RowKit
open Go.ChangeMaps (open_string shut_string)
set_option linter.unusedVariables false
set_option linter.unusedSimpArgs false

theorem own : ownKnob Try.prog.godebug = none := by kernel_rfl
theorem laidOut : laidOutB Try.prog = true := by kernel_rfl

set_option maxRecDepth 100000 in
set_option maxHeartbeats 16000000 in
theorem walk (a0 a1 : Int) (a2 : Option Addr) (len2 cap2 : Nat) (I B : Nat → Int) (w : World) (w0 : (Lit.int .i64 a0).wf = true) (w1 : (Lit.int .i64 a1).wf = true) (hl : len2 ≤ cap2) (hcap : cap2 ≤ maxLen) (hS : Sees w a2 len2 I B) :
    Calls Try.prog 9 #[.int .i64 a0, .int .i64 a1, .slice a2 len2 cap2] w fun e w' => e = .returned (.bool true) ∧ Below w.heap.size w w' := by
  have hr0 := bounds_i64 w0
  have hr1 := bounds_i64 w1
  have R0 := Lib.hid (fun w => rest_any a0 4 hr0.1 hr0.2 (by decide) (by decide) w)
  have R1 := Lib.hid (fun w => rest_any a1 52 hr1.1 hr1.2 (by decide) (by decide) w)
  have c0 : 0 ≤ a0 % 4 := by omega
  have c1 : a0 % 4 < 4 := by omega
  have q0 : 0 ≤ a1 % 52 := by omega
  have q1 : a1 % 52 < 52 := by omega
  clear hr0 hr1 w0 w1
  generalize a0 % 4 = c at *
  generalize a1 % 52 = q at *
  obtain ⟨n, hn, hn1, hn2, hn3⟩ : ∃ n : Nat, (if (100 : Int) < (len2 : Int) then (100 : Int) else (len2 : Int)) = (n : Int) ∧ n ≤ 100 ∧ n ≤ len2 ∧ n ≤ cap2 := by
    by_cases h : 100 < len2
    · exact ⟨100, by rw [if_pos (by omega)]; rfl, by omega, by omega, by omega⟩
    · exact ⟨len2, by rw [if_neg (by omega)], by omega, by omega, by omega⟩
  have HS := Lib.hid (hS.less hn2)
  clear hS
  unfold maxLen at hcap
  go_enter Try.func9, Try.ntmps9
  go_wp2_with (fail)
  go_quiet ((first
    | (go_at_call_of 13 (Value.int .i64 a0); exact Calls.quiet_of_same ((R0.out _).mono fun _ _ h => ⟨h.1, h.2.symm⟩))
    | (go_at_call_of 13 (Value.int .i64 a1); exact Calls.quiet_of_same ((R1.out _).mono fun _ _ h => ⟨h.1, h.2.symm⟩))))
  have B0 := Lib.hid ((Below.refl w.heap.size w).drewN nq)
  have HSz := Lib.hid (HS.out.mono B0.out)
  have hwz : w.heap.size ≤ (w.drewN nq).heap.size := Nat.le_refl _
  clear HS
  generalize w.drewN nq = wz at *
  have HN := Lib.hid (fun w => new_yes c q c0 (by omega) q0 (by omega) w)
  have HG0 := Lib.hid (S0_good c q)
  have HS0 := Lib.hid (fun i : Nat => show S0 c q i = (pI i c q, bI i c q) from rfl)
  have HI := Lib.hid (fun (i : Nat) w => init_any i c q w)
  have HIE := Lib.hid (show ∀ i : Nat, i < 286 → eI i c q = 0 from fun i hi => by unfold eI; rw [if_pos (by unfold inI; omega)])
  clear hn hl hcap
  generalize S0 c q = S0' at *
  go_wp2_with (fail)
  refine (HN.out _).mono ?_
  rintro e w1 ⟨rfl, t1, b1⟩
  have T1 := Lib.hid t1
  have B1 := Lib.hid b1
  have s1 := t1.lt
  clear t1 b1
  go_wp2_with (fail)
  refine (HN.out _).mono ?_
  rintro e w2 ⟨rfl, t2, b2⟩
  have O2 := Lib.hid t2
  have T2 := Lib.hid (T1.out.below b2 s1)
  have B2 := Lib.hid (B1.out.trans (b2.mono (by omega)))
  have s2 := t2.lt
  clear t2 b2
  go_wp2_with (fail)
  refine (copy_yes wz.heap.size S0' _ T2.out).mono ?_
  rintro e w3 ⟨rfl, u3, t3, b3⟩
  have U3 := Lib.hid u3
  have O3 := Lib.hid (O2.out.below b3 s2)
  have T3 := Lib.hid t3
  have B3 := Lib.hid (B2.out.trans (b3.mono (by omega)))
  have s3 := u3.lt
  clear u3 t3 b3
  go_wp2_with (fail)
  go_loopw [12] (fun v wr => ∃ (k : Nat) (S : Nat → Int × Int), k ≤ n ∧ v = .int .i64 k ∧ Good S ∧ Tab wr wz.heap.size S ∧ Tab wr w1.heap.size S0' ∧ Tab wr w2.heap.size S0' ∧ Below wz.heap.size wz wr) (fun v _ => n - (intOf v).toNat)
  case atStart => exact ⟨0, S0', Nat.zero_le _, rfl, HG0.out, T3.out, O3.out, U3.out, B3.out⟩
  case round =>
    obtain ⟨k, S, hk, rfl, hG, hT, hO, hU, hB⟩ := hrel
    have GG := Lib.hid hG
    have TT := Lib.hid hT
    have OO := Lib.hid hO
    have UU := Lib.hid hU
    have BB := Lib.hid hB
    have hg := hT.lt
    have ho := hO.lt
    have hu := hU.lt
    have hz := hB.size
    clear hG hT hO hU hB
    by_cases hlt : k < n
    · obtain ⟨b, off, rfl, hb, l0, l1, i0, i1, j0, j1⟩ := HSz.out.at' hlt
      have l0' := (BB.out.cell (p := ⟨b, off + k * 2, none⟩) hb).trans l0
      have l1' := (BB.out.cell (p := ⟨b, off + k * 2 + 1, none⟩) hb).trans l1
      have L0 := Lib.hid l0
      have L1 := Lib.hid l1
      clear l0 l1
      generalize I k = x at *
      generalize B k = y at *
      have HR := Lib.hid (fun w => rest_any x 286 i0 i1 (by decide) (by decide) w)
      have k0 : (0 : Int) ≤ (k : Int) := by omega
      have k1 : (k : Int) < (n : Int) := by omega
      have hm : (y.tmod 2) = y % 2 := Int.tmod_eq_emod_of_nonneg j0
      have y0 : 0 ≤ y % 2 := by omega
      have HST := Lib.hid (fun S w hT => state_any wz.heap.size S x w hT)
      have HSE := Lib.hid (fun S hS w hT => see_any wz.heap.size S x y hS j0 w hT)
      have HSG := Lib.hid (fun S hS => (seeS_good (S := S) hS (i := x) (b := y) j0))
      have HSE2 := Lib.hid (fun S hS w hT => see_any wz.heap.size S (x % 286) (y % 2) hS y0 w hT)
      have HSG2 := Lib.hid (fun S hS => (seeS_good (S := S) hS (i := x % 286) (b := y % 2) y0))
      have HX := Lib.hid (show seeE x y = 0 ∨ (seeE x y = 3 ∧ ∀ S, seeS S x y = S) from by
        unfold seeE seeS
        by_cases h : 0 ≤ x ∧ x < 286 ∧ y ≤ 1
        · exact .inl (if_pos h)
        · exact .inr ⟨if_neg h, fun S => if_neg h⟩)
      have HSTS := Lib.hid (HST.out S)
      have HSEC := Lib.hid (HSE.out S GG.out)
      have G5 := Lib.hid (HSG.out S GG.out)
      have TT' := Lib.hid TT.out
      generalize stP S x = p at *
      generalize stM S x = m at *
      generalize stE x = er at *
      have e1 : (p != p) = false := by simp
      have e2 : (m != m) = false := by simp
      have e3 : (p == p) = true := by simp
      have e4 : (m == m) = true := by simp
      have e5 : (er != er) = false := by simp
      rcases HX.out with he | ⟨he, hsame⟩
      · rw [he] at HSEC
        clear he HX
        go_wp2_with (fail)
        refine (HSTS.out _ TT'.out).mono ?_
        rintro e w4 ⟨rfl, b4⟩
        have BX := Lib.hid (BB.out.trans (b4.mono hz))
        have T4 := Lib.hid (TT'.out.below b4 hg)
        have O4 := Lib.hid (OO.out.below b4 ho)
        have U4 := Lib.hid (UU.out.below b4 hu)
        have s4 := b4.size
        have hz4 := BX.out.size
        have X4 := Lib.hid (Box.new w4 23 #[.int .u8 p, .int .u8 m])
        have m0 := ((BX.out.alloc hz4 (.cells #[.int .u8 p, .int .u8 m] 23)).cell (p := ⟨b, off + k * 2, none⟩) hb).trans L0.out
        have m1 := ((BX.out.alloc hz4 (.cells #[.int .u8 p, .int .u8 m] 23)).cell (p := ⟨b, off + k * 2 + 1, none⟩) hb).trans L1.out
        clear b4 l0' l1'
        go_wp2_with (fail)
        go_region_held3 (fun w' => w'.cell? ⟨b, off + k * 2, none⟩ = some (.int .i64 x) ∧ w'.cell? ⟨b, off + k * 2 + 1, none⟩ = some (.int .u8 y))
          (first | exact ⟨m0, m1⟩ | exact ⟨by simpa using m0, by simpa using m1⟩ | exact ⟨z0, z1⟩)
          (first
            | (go_at_call 15; refine (HSEC.out _ (by exact T4.out.alloc _)).mono ?_; rintro e w5 ⟨rfl, t5, f5⟩; have b5 := (BX.out.alloc hz4 (.cells #[.int .u8 p, .int .u8 m] 23)).drew.trans (f5.below (Nat.le_refl _) (by simp; omega)); have z0 := (b5.cell (p := ⟨b, off + k * 2, none⟩) hb).trans L0.out; have z1 := (b5.cell (p := ⟨b, off + k * 2 + 1, none⟩) hb).trans L1.out; have T5 := Lib.hid t5; have B5 := Lib.hid b5; have O5 := Lib.hid (f5.tab (g' := w1.heap.size) (O4.out.alloc _) (by omega)); have U5 := Lib.hid (f5.tab (g' := w2.heap.size) (U4.out.alloc _) (by omega)); have X5 := Lib.hid (f5.box (g' := w4.heap.size) X4.out (by have := T4.out.lt; omega)); have hz5 := b5.size; clear b5 t5 f5))
        clear m0 m1
        have n0 := z0
        have n1 := z1
        clear z0 z1
        go_wp2_with (fail)
        go_region_held3 (fun w' => w'.cell? ⟨b, off + k * 2, none⟩ = some (.int .i64 x) ∧ w'.cell? ⟨b, off + k * 2 + 1, none⟩ = some (.int .u8 y))
          (first | exact ⟨n0, n1⟩ | exact ⟨by simpa using n0, by simpa using n1⟩ | exact ⟨y0', y1'⟩)
          (first
            | (go_at_call 13; refine (HR.out _).mono ?_; rintro e w9 ⟨rfl, rfl⟩)
            | (go_at_call 15; refine (HSE2.out _ G5.out _ (by exact T5.out)).mono ?_; rintro e w7 ⟨rfl, t7, f7⟩; have b7 := B5.out.drew.trans (f7.below (Nat.le_refl _) hz5); have y0' := (b7.cell (p := ⟨b, off + k * 2, none⟩) hb).trans L0.out; have y1' := (b7.cell (p := ⟨b, off + k * 2 + 1, none⟩) hb).trans L1.out; have T7 := Lib.hid t7; have B7 := Lib.hid b7; have O7 := Lib.hid (f7.tab (g' := w1.heap.size) O5.out (by omega)); have U7 := Lib.hid (f7.tab (g' := w2.heap.size) U5.out (by omega)); clear b7 t7 f7))
        all_goals
          go_wp2_with (fail)
          go_roundw
          case rel => exact ⟨k + 1, _, by omega, by go_num, HSG2.out _ G5.out, T7.out, O7.out, U7.out, B7.out⟩
          case measure => simp [intOf]; omega
      · rw [he, hsame S] at HSEC
        rw [hsame S] at G5
        clear he HX hsame
        go_wp2_with (fail)
        refine (HSTS.out _ TT'.out).mono ?_
        rintro e w4 ⟨rfl, b4⟩
        have BX := Lib.hid (BB.out.trans (b4.mono hz))
        have T4 := Lib.hid (TT'.out.below b4 hg)
        have O4 := Lib.hid (OO.out.below b4 ho)
        have U4 := Lib.hid (UU.out.below b4 hu)
        have s4 := b4.size
        have hz4 := BX.out.size
        have X4 := Lib.hid (Box.new w4 23 #[.int .u8 p, .int .u8 m])
        have m0 := ((BX.out.alloc hz4 (.cells #[.int .u8 p, .int .u8 m] 23)).cell (p := ⟨b, off + k * 2, none⟩) hb).trans L0.out
        have m1 := ((BX.out.alloc hz4 (.cells #[.int .u8 p, .int .u8 m] 23)).cell (p := ⟨b, off + k * 2 + 1, none⟩) hb).trans L1.out
        clear b4 l0' l1'
        go_wp2_with (fail)
        go_region_held3 (fun w' => w'.cell? ⟨b, off + k * 2, none⟩ = some (.int .i64 x) ∧ w'.cell? ⟨b, off + k * 2 + 1, none⟩ = some (.int .u8 y))
          (first | exact ⟨m0, m1⟩ | exact ⟨by simpa using m0, by simpa using m1⟩ | exact ⟨z0, z1⟩)
          (first
            | (go_at_call 15; refine (HSEC.out _ (by exact T4.out.alloc _)).mono ?_; rintro e w5 ⟨rfl, t5, f5⟩; have b5 := (BX.out.alloc hz4 (.cells #[.int .u8 p, .int .u8 m] 23)).drew.trans (f5.below (Nat.le_refl _) (by simp; omega)); have z0 := (b5.cell (p := ⟨b, off + k * 2, none⟩) hb).trans L0.out; have z1 := (b5.cell (p := ⟨b, off + k * 2 + 1, none⟩) hb).trans L1.out; have T5 := Lib.hid t5; have B5 := Lib.hid b5; have O5 := Lib.hid (f5.tab (g' := w1.heap.size) (O4.out.alloc _) (by omega)); have U5 := Lib.hid (f5.tab (g' := w2.heap.size) (U4.out.alloc _) (by omega)); have X5 := Lib.hid (f5.box (g' := w4.heap.size) X4.out (by have := T4.out.lt; omega)); have hz5 := b5.size; clear b5 t5 f5))
        go_wp2_with (fail)
        refine (HSTS.out _ T5.out).mono ?_
        rintro e w6 ⟨rfl, b6⟩
        have B6 := Lib.hid (B5.out.trans (b6.mono hz5))
        have T6 := Lib.hid (T5.out.below b6 T5.out.lt)
        have O6 := Lib.hid (O5.out.below b6 O5.out.lt)
        have U6 := Lib.hid (U5.out.below b6 U5.out.lt)
        have X6 := X5.out.below b6 X5.out.lt
        have hz6 := B6.out.size
        have y60 : w6.cell? ⟨w4.heap.size, 0, none⟩ = some (.int .u8 p) := by simpa using X6.cell 0
        have y61 : w6.cell? ⟨w4.heap.size, 1, none⟩ = some (.int .u8 m) := by simpa using X6.cell 1
        have s6 := X6.lt
        clear b6 X6 m0 m1 z0 z1
        have BA := Lib.hid (B6.out.alloc hz6 (.cells #[.int .u8 p, .int .u8 m] 23))
        have TA := Lib.hid (T6.out.alloc (.cells #[.int .u8 p, .int .u8 m] 23))
        have OA := Lib.hid (O6.out.alloc (.cells #[.int .u8 p, .int .u8 m] 23))
        have UA := Lib.hid (U6.out.alloc (.cells #[.int .u8 p, .int .u8 m] 23))
        have n0 := (BA.out.cell (p := ⟨b, off + k * 2, none⟩) hb).trans L0.out
        have n1 := (BA.out.cell (p := ⟨b, off + k * 2 + 1, none⟩) hb).trans L1.out
        have hzA := BA.out.size
        go_wp2_with (fail)
        go_region_held3 (fun w' => w'.cell? ⟨b, off + k * 2, none⟩ = some (.int .i64 x) ∧ w'.cell? ⟨b, off + k * 2 + 1, none⟩ = some (.int .u8 y))
          (first | exact ⟨n0, n1⟩ | exact ⟨by simpa using n0, by simpa using n1⟩ | exact ⟨y0', y1'⟩)
          (first
            | (go_at_call 13; refine (HR.out _).mono ?_; rintro e w9 ⟨rfl, rfl⟩)
            | (go_at_call 15; refine (HSE2.out _ G5.out _ (by exact TA.out)).mono ?_; rintro e w7 ⟨rfl, t7, f7⟩; have b7 := BA.out.drew.trans (f7.below (Nat.le_refl _) hzA); have y0' := (b7.cell (p := ⟨b, off + k * 2, none⟩) hb).trans L0.out; have y1' := (b7.cell (p := ⟨b, off + k * 2 + 1, none⟩) hb).trans L1.out; have T7 := Lib.hid t7; have B7 := Lib.hid b7; have O7 := Lib.hid (f7.tab (g' := w1.heap.size) OA.out (by omega)); have U7 := Lib.hid (f7.tab (g' := w2.heap.size) UA.out (by omega)); clear b7 t7 f7))
        all_goals
          go_wp2_with (fail)
          go_roundw
          case rel => exact ⟨k + 1, _, by omega, by go_num, HSG2.out _ G5.out, T7.out, O7.out, U7.out, B7.out⟩
          case measure => simp [intOf]; omega
    · obtain rfl : k = n := by omega
      go_wp2_with (fail)
      obtain ⟨wo, rfl⟩ : ∃ wo : World, wo = wr := ⟨_, rfl⟩
      go_loopw [18] (fun v wr => ∃ j : Nat, j ≤ 286 ∧ v = .int .i64 j ∧ Tab wr w1.heap.size S0' ∧ Tab wr w2.heap.size S0' ∧ Below wz.heap.size wz wr) (fun v _ => 286 - (intOf v).toNat)
      case atStart => exact ⟨0, Nat.zero_le _, rfl, OO.out, UU.out, BB.out⟩
      case round =>
        obtain ⟨j, hj, rfl, hO, hU, hB⟩ := hrel
        have O2' := Lib.hid hO
        have U2' := Lib.hid hU
        have B2' := Lib.hid hB
        have z2 := hB.size
        have ho2 := hO.lt
        have hu2 := hU.lt
        clear hO hU hB
        by_cases hj2 : j < 286
        · have HIJ := Lib.hid (HI.out j)
          rw [HIE.out j hj2] at HIJ
          have HSO := Lib.hid (fun w hT => state_yes w1.heap.size S0' j hj2 w hT)
          have HSU := Lib.hid (fun w hT => state_yes w2.heap.size S0' j hj2 w hT)
          simp only [HS0.out j] at HSO HSU
          generalize pI j c q = p at *
          generalize bI j c q = m at *
          have j0 : (0 : Int) ≤ (j : Int) := by omega
          have j1 : (j : Int) < 286 := by omega
          have e1 : (p != p) = false := by simp
          have e2 : (m != m) = false := by simp
          have e3 : (p == p) = true := by simp
          have e4 : (m == m) = true := by simp
          go_wp2_with (fail)
          refine (HIJ.out _).mono ?_
          rintro e w4 ⟨rfl, b4⟩
          have X4 := Lib.hid (Box.new w4 23 #[.int .u8 p, .int .u8 m])
          have O4 := Lib.hid ((O2'.out.below b4 ho2).alloc (.cells #[.int .u8 p, .int .u8 m] 23))
          have U4 := Lib.hid ((U2'.out.below b4 hu2).alloc (.cells #[.int .u8 p, .int .u8 m] 23))
          have B4 := Lib.hid ((B2'.out.trans (b4.mono z2)).alloc (by have := b4.size; omega) (.cells #[.int .u8 p, .int .u8 m] 23))
          clear b4
          go_wp2_with (fail)
          refine (HSU.out _ U4.out).mono ?_
          rintro e w5 ⟨rfl, b5⟩
          have X5 := Lib.hid ((X4.out.below b5 (by simp)).alloc (.cells #[.int .u8 p, .int .u8 m] 23))
          have Y5 := Lib.hid (Box.new w5 23 #[.int .u8 p, .int .u8 m])
          have O5 := Lib.hid ((O4.out.below b5 O4.out.lt).alloc (.cells #[.int .u8 p, .int .u8 m] 23))
          have U5 := Lib.hid ((U4.out.below b5 U4.out.lt).alloc (.cells #[.int .u8 p, .int .u8 m] 23))
          have B5 := Lib.hid ((B4.out.trans (b5.mono B4.out.size)).alloc (by have := B4.out.size; have := b5.size; omega) (.cells #[.int .u8 p, .int .u8 m] 23))
          have s5 : w4.heap.size < w5.heap.size := by have := b5.size; simp at this; omega
          clear b5
          go_wp2_with (fail)
          refine (HSO.out _ O5.out).mono ?_
          rintro e w6 ⟨rfl, b6⟩
          have X6 := X5.out.below b6 X5.out.lt
          have Y6 := Y5.out.below b6 (by simp)
          have O6 := Lib.hid ((O5.out.below b6 O5.out.lt).alloc (.cells #[.int .u8 p, .int .u8 m] 23))
          have U6 := Lib.hid ((U5.out.below b6 U5.out.lt).alloc (.cells #[.int .u8 p, .int .u8 m] 23))
          have B6 := Lib.hid ((B5.out.trans (b6.mono B5.out.size)).alloc (by have := B5.out.size; have := b6.size; omega) (.cells #[.int .u8 p, .int .u8 m] 23))
          have s6 : w5.heap.size < w6.heap.size := by have := b6.size; simp at this; omega
          have s46 : w4.heap.size < w6.heap.size := by omega
          have f0 : w6.cell? ⟨w4.heap.size, 0, none⟩ = some (.int .u8 p) := by simpa using X6.cell 0
          have f1 : w6.cell? ⟨w4.heap.size, 1, none⟩ = some (.int .u8 m) := by simpa using X6.cell 1
          have f2 : w6.cell? ⟨w5.heap.size, 0, none⟩ = some (.int .u8 p) := by simpa using Y6.cell 0
          have f3 : w6.cell? ⟨w5.heap.size, 1, none⟩ = some (.int .u8 m) := by simpa using Y6.cell 1
          clear b6 X6 Y6
          go_wp2_with (fail)
          go_roundw
          case rel => exact ⟨j + 1, by omega, by go_num, O6.out, U6.out, B6.out⟩
          case measure => simp [intOf]; omega
        · go_wp2_with (fail)
          refine (alive_yes _).mono ?_
          rintro e w9 ⟨rfl, b9⟩
          have B9 := Lib.hid (B2'.out.trans (b9.mono z2))
          clear b9
          go_wp2_with (fail)
          go_ret
          exact ⟨rfl, B0.out.trans (B9.out.mono hwz)⟩

/-! ### The row -/
set_option maxRecDepth 100000 in
theorem lifted (os : Os) (started : os.Started) (H : Type) (enc : TypeId × Value → H) :
    ReturnsInHanded {} Try.checked os 9 .any (Rows.ctxTwinsSpec.pre6 enc Try.prog Try.f9 Rows.ctxTwinsRow.domain false) (Rows.ctxTwinsSpec.post enc Try.prog Try.f9 false true false false) := by
  refine returnsInHanded_of_change (C := Try.checked) own started (by kernel_rfl) Try.func9
    (ChangeSpec.witness6 (enc := enc) (C := Try.checked) false ⟨#[], #[.int .i64 0, .int .i64 0, .slice none 0 0], []⟩ 8 (by kernel_rfl) (by kernel_rfl) (by kernel_rfl) (by kernel_rfl)) ?_
  intro W base args ds gs before hval0 hW hcnd _
  have hval : ∀ (j : Nat) t v, Try.f9.params[j]? = some t → args[j]? = some v → Value.okWide Try.prog W .any base t v := hval0
  have hW' := hW
  obtain ⟨p, q, hA0, hV, rfl, hfz, hnd⟩ := hW
  have hA : DataW.TrodAll enc Try.prog W 0 (fun _ => true) true Try.f9.params.toList args.toList ds p := hA0
  rw [Try.params9] at hA hval
  obtain ⟨v0, vs0, d0, ds0, p0, q0, hargs, rfl, rfl, h0, r0⟩ := trodAll_cons hA
  obtain ⟨v1, vs1, d1, ds1, p1, q1, rfl, rfl, rfl, h1, r1⟩ := trodAll_cons r0
  obtain ⟨v2, vs2, d2, ds2, p2, q2, rfl, rfl, rfl, h2, r2⟩ := trodAll_cons r1

  obtain ⟨rfl, rfl, rfl⟩ := trodAll_nil r2
  obtain rfl : args = #[v0, v1, v2] := by cases args; simp_all
  obtain ⟨rfl, rfl⟩ := trodVars_none hV
  obtain ⟨a0, rfl, rfl, rfl, w0⟩ := open_int Try.underlying3 (hval 0 3 v0 rfl rfl) h0
  obtain ⟨a1, rfl, rfl, rfl, w1⟩ := open_int Try.underlying3 (hval 1 3 v1 rfl rfl) h1

  obtain ⟨a2, len2, cap2, rfl⟩ := okWide_slice Try.underlying29 (hval 2 29 v2 rfl rfl)
  have k2 := h2
  have lt2 : ∀ x ∈ p2, x.block < W.heap.size := by obtain ⟨m, hm⟩ := k2; exact DataW.trod_lt m _ _ _ hm
  obtain ⟨I, B, hl, hcap, hS, _⟩ : ∃ I B, len2 ≤ cap2 ∧ cap2 ≤ maxLen ∧ Sees W a2 len2 I B ∧ True := by
    obtain ⟨fuel, hf⟩ := h2
    obtain ⟨I, B, e1, e2, e3, _⟩ := open_sees hf
    exact ⟨I, B, e1, e2, e3, trivial⟩
  clear hA0 hval0
  refine (walk a0 a1 a2 len2 cap2 I B W w0 w1 hl hcap hS).mono fun e W' ⟨he, bel⟩ => ?_
  subst he
  exact ⟨_, rfl, _, _, _, [], _, [], hW', trodAll_mk1 (shut_bool Try.underlying4 _), (trodAll_cons_mk (shut_int Try.underlying3 w0) (trodAll_cons_mk (shut_int Try.underlying3 w1) (trodAll_cons_mk (Below.trod laidOut (by kernel_rfl) (of_decide_eq_true (by kernel_rfl)) k2 bel lt2) trodAll_mk0))), rfl, bel.frame _, fun h => by cases h⟩

theorem over : Rows.ctxTwinsRow.holds Try.pinned (OpenSpec.ofChange Rows.ctxTwinsSpec) :=
  OpenClaim.holds_of_wide 9 Try.f9 rfl rfl rfl rfl rfl rfl rfl ⟨rfl, rfl, rfl, rfl, rfl⟩ rfl rfl rfl rfl rfl (by kernel_rfl) Try.func9 (by kernel_rfl)
    (of_decide_eq_true (by kernel_rfl)) (by unfold Func.isWrapper; first | (rw [if_pos (by decide +kernel)]; kernel_rfl) | (rw [if_neg (by decide +kernel)]; exact ⟨rfl, rfl⟩))
    (fun os started H enc _ => lifted os started H enc)

/-- The statement. -/
theorem proved : Rows.CtxTwinsSaid := over
#print axioms proved
end Go.Proofs.Ytomeiofieheggaa.ctxTwins
