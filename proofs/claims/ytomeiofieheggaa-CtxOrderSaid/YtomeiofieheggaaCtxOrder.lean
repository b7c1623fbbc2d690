/- CtxOrder: bits may come in any order, as long as those of one context keep theirs; no conditions. -/
import Derived.Test.YtomeiofieheggaaRows
import Derived.WalkKit
import Derived.ProofKit
import Derived.OpenShut
import Derived.ShutString
import Derived.ChangeOld
import Derived.Below
import Derived.Deep.RegionHeld3
import Derived.Deep.DeepCutAuto
import Derived.Test.YtomeiofieheggaaFold
namespace Go.Proofs.Ytomeiofieheggaa.ctxOrder
open Go.ChangeShapes Go.WideShapes Go.ChangeAt Go.RowKit
open Go.ChangeMaps (open_string shut_string)
set_option linter.unusedVariables false
set_option linter.unusedSimpArgs false

theorem own : ownKnob Try.prog.godebug = none := by kernel_rfl
theorem laidOut : laidOutB Try.prog = true := by kernel_rfl

/-- The states of the second table: parts below p are done, of part p the first k bits. -/
def U (c q : Int) (I B : Nat → Int) (n p k : Nat) : Nat → Int × Int := fun i => if i % 2 < p then Fo c q I B i n else if i % 2 = p then Fo c q I B i k else Fo c q I B i 0
theorem U_zero (c q : Int) (I B : Nat → Int) (n : Nat) (i : Nat) : S0 c q i = U c q I B n 0 0 i := by
  unfold U
  rw [if_neg (by omega)]
  split <;> rfl
theorem U_next (c q : Int) (I B : Nat → Int) (n p : Nat) (i : Nat) : U c q I B n p n i = U c q I B n (p + 1) 0 i := by
  unfold U
  by_cases h : i % 2 < p
  · rw [if_pos h, if_pos (by omega)]
  · rw [if_neg h]
    by_cases h2 : i % 2 = p
    · rw [if_pos h2, if_pos (by omega)]
    · rw [if_neg h2, if_neg (by omega)]
      split <;> rfl
theorem U_last (c q : Int) (I B : Nat → Int) (n : Nat) (i : Nat) : U c q I B n 2 0 i = F c q I B n i := by
  unfold U
  rw [if_pos (by omega)]
  rfl
theorem U_good (c q : Int) (I B : Nat → Int) (n p k : Nat) : Good (U c q I B n p k) := by
  intro i hi
  unfold U
  split
  · exact fo_good c q I B i hi n
  · split
    · exact fo_good c q I B i hi k
    · exact fo_good c q I B i hi 0
theorem U_skip (c q : Int) (I B : Nat → Int) (n p k : Nat) (h : ¬ (I k % 286) % 2 = (p : Int)) (i : Nat) : U c q I B n p k i = U c q I B n p (k + 1) i := by
  unfold U
  by_cases h1 : i % 2 < p
  · rw [if_pos h1, if_pos h1]
  · rw [if_neg h1, if_neg h1]
    by_cases h2 : i % 2 = p
    · rw [if_pos h2, if_pos h2, fo_skip c q I B i k (by omega)]
    · rw [if_neg h2, if_neg h2]
theorem U_step (c q : Int) (I B : Nat → Int) (n p k : Nat) (h : (I k % 286) % 2 = (p : Int)) (i : Nat) : seeS (U c q I B n p k) (I k % 286) (B k % 2) i = U c q I B n p (k + 1) i := by
  unfold seeS
  rw [if_pos ⟨by omega, by omega, by omega⟩]
  unfold upd
  by_cases e : i = (I k % 286).toNat
  · rw [if_pos e]
    subst e
    have h2 : (I k % 286).toNat % 2 = p := by omega
    unfold U
    rw [if_neg (by omega), if_pos h2, if_neg (by omega), if_pos h2, fo_step c q I B _ k (by omega)]
  · rw [if_neg e]
    unfold U
    by_cases h1 : i % 2 < p
    · rw [if_pos h1, if_pos h1]
    · rw [if_neg h1, if_neg h1]
      by_cases h2 : i % 2 = p
      · rw [if_pos h2, if_pos h2, fo_skip c q I B i k (by omega)]
      · rw [if_neg h2, if_neg h2]

set_option maxRecDepth 100000 in
set_option maxHeartbeats 16000000 in
theorem walk (a0 a1 : Int) (a2 : Option Addr) (len2 cap2 : Nat) (I B : Nat → Int) (w : World) (w0 : (Lit.int .i64 a0).wf = true) (w1 : (Lit.int .i64 a1).wf = true) (hl : len2 ≤ cap2) (hcap : cap2 ≤ maxLen) (hS : Sees w a2 len2 I B) :
    Calls Try.prog 5 #[.int .i64 a0, .int .i64 a1, .slice a2 len2 cap2] w fun e w' => e = .returned (.bool true) ∧ Below w.heap.size w w' := by
  have hr0 := bounds_i64 w0
  have hr1 := bounds_i64 w1
  have R0 := Lib.hid (fun w => rest_any a0 4 hr0.1 hr0.2 (by decide) (by decide) w)
  have R1 := Lib.hid (fun w => rest_any a1 52 hr1.1 hr1.2 (by decide) (by decide) w)
  have c0 : 0 ≤ a0 % 4 := by omega
  have c1 : a0 % 4 < 4 := by omega
  have q0 : 0 ≤ a1 % 52 := by omega
  have q1 : a1 % 52 < 52 := by omega
  clear hr0 hr1 w0 w1
  generalize a0 % 4 = c at *
  generalize a1 % 52 = q at *
  obtain ⟨n, hn, hn1, hn2, hn3⟩ : ∃ n : Nat, (if (100 : Int) < (len2 : Int) then (100 : Int) else (len2 : Int)) = (n : Int) ∧ n ≤ 100 ∧ n ≤ len2 ∧ n ≤ cap2 := by
    by_cases h : 100 < len2
    · exact ⟨100, by rw [if_pos (by omega)]; rfl, by omega, by omega, by omega⟩
    · exact ⟨len2, by rw [if_neg (by omega)], by omega, by omega, by omega⟩
  have HS := Lib.hid (hS.less hn2)
  clear hS
  unfold maxLen at hcap
  go_enter Try.func5, Try.ntmps5
  go_wp2_with (fail)
  go_quiet ((first
    | (go_at_call_of 13 (Value.int .i64 a0); exact Calls.quiet_of_same ((R0.out _).mono fun _ _ h => ⟨h.1, h.2.symm⟩))
    | (go_at_call_of 13 (Value.int .i64 a1); exact Calls.quiet_of_same ((R1.out _).mono fun _ _ h => ⟨h.1, h.2.symm⟩))))
  have B0 := Lib.hid ((Below.refl w.heap.size w).drewN nq)
  have HSz := Lib.hid (HS.out.mono B0.out)
  have hwz : w.heap.size ≤ (w.drewN nq).heap.size := Nat.le_refl _
  clear HS
  generalize w.drewN nq = wz at *
  have HN := Lib.hid (fun w => new_yes c q c0 (by omega) q0 (by omega) w)
  have HSEE := Lib.hid (fun k g w hT => see_any g (F c q I B k) (I k % 286) (B k % 2) (F_good c q I B k) (by omega) w hT)
  have HFS := Lib.hid (fun k => F_succ c q I B k)
  have HSE0 := Lib.hid (fun k => seeE_zero I B k)
  have HUS := Lib.hid (fun p k g w hT => see_any g (U c q I B n p k) (I k % 286) (B k % 2) (U_good c q I B n p k) (by omega) w hT)
  have HUstep := Lib.hid (fun p k h i => U_step c q I B n p k h i)
  have HUskip := Lib.hid (fun p k h i => U_skip c q I B n p k h i)
  have HUnext := Lib.hid (fun p i => U_next c q I B n p i)
  have HUlast := Lib.hid (fun i => U_last c q I B n i)
  have HUzero := Lib.hid (fun i => U_zero c q I B n i)
  have HF0 := Lib.hid (F_zero c q I B)
  clear hn hl hcap
  go_wp2_with (fail)
  refine (HN.out _).mono ?_
  rintro e w1 ⟨rfl, t1, b1⟩
  have T1 := Lib.hid t1
  have B1 := Lib.hid b1
  have s1 := t1.lt
  clear t1 b1
  go_wp2_with (fail)
  refine (HN.out _).mono ?_
  rintro e w2 ⟨rfl, t2, b2⟩
  have O2 := Lib.hid t2
  have T2 := Lib.hid (T1.out.below b2 s1)
  have B2 := Lib.hid (B1.out.trans (b2.mono (by omega)))
  have s2 := t2.lt
  clear t2 b2
  go_wp2_with (fail)
  go_loopw [11] (fun v wr => ∃ k : Nat, k ≤ n ∧ v = .int .i64 k ∧ Tab wr wz.heap.size (F c q I B k) ∧ Tab wr w1.heap.size (S0 c q) ∧ Below wz.heap.size wz wr) (fun v _ => n - (intOf v).toNat)
  case atStart => exact ⟨0, Nat.zero_le _, rfl, by rw [HF0.out]; exact T2.out, O2.out, B2.out⟩
  case round =>
    obtain ⟨k, hk, rfl, hT, hO, hB⟩ := hrel
    have TT := Lib.hid hT
    have OO := Lib.hid hO
    have BB := Lib.hid hB
    have hlt' := hT.lt
    clear hT hB hO
    by_cases hlt : k < n
    · obtain ⟨b, off, rfl, hb, l0, l1, i0, i1, j0, j1⟩ := HSz.out.at' hlt
      have l0' := (BB.out.cell (p := ⟨b, off + k * 2, none⟩) hb).trans l0
      have l1' := (BB.out.cell (p := ⟨b, off + k * 2 + 1, none⟩) hb).trans l1
      have SE := Lib.hid (HSEE.out k wz.heap.size)
      rw [HSE0.out k, HFS.out k] at SE
      have L0 := Lib.hid l0
      have L1 := Lib.hid l1
      clear l0 l1
      generalize I k = x at *
      generalize B k = y at *
      have HR := Lib.hid (fun w => rest_any x 286 i0 i1 (by decide) (by decide) w)
      have k0 : (0 : Int) ≤ (k : Int) := by omega
      have k1 : (k : Int) < (n : Int) := by omega
      have hm : (y.tmod 2) = y % 2 := Int.tmod_eq_emod_of_nonneg j0
      go_wp2_with (fail)
      go_region_held3 (fun w' => w'.cell? ⟨b, off + k * 2, none⟩ = some (.int .i64 x) ∧ w'.cell? ⟨b, off + k * 2 + 1, none⟩ = some (.int .u8 y))
        (first | exact ⟨l0', l1'⟩ | exact ⟨by simpa using l0', by simpa using l1'⟩ | exact ⟨z0, z1⟩)
        (first
          | (go_at_call 13; refine (HR.out _).mono ?_; rintro e w2 ⟨rfl, rfl⟩)
          | (go_at_call 15; refine (SE.out _ (by exact TT.out)).mono ?_; rintro e w3 ⟨rfl, t3, f3⟩; have b3 := BB.out.drew.trans (f3.below (Nat.le_refl _) BB.out.size); have z0 := (b3.cell (p := ⟨b, off + k * 2, none⟩) hb).trans L0.out; have z1 := (b3.cell (p := ⟨b, off + k * 2 + 1, none⟩) hb).trans L1.out; have T3 := Lib.hid t3; have B3 := Lib.hid b3; have O3 := Lib.hid (f3.tab (g' := w1.heap.size) OO.out (by omega)); clear b3 t3 f3))
      all_goals
        go_wp2_with (fail)
        go_roundw
        case rel => exact ⟨k + 1, by omega, by go_num, T3.out, O3.out, B3.out⟩
        case measure => simp [intOf]; omega
    · obtain rfl : k = n := by omega
      clear HSEE HFS HF0
      have hone := Lib.hid (OO.out.ext (fun i _ => HUzero.out i))
      go_wp2_with (fail)
      obtain ⟨wo, rfl⟩ : ∃ wo : World, wo = wr := ⟨_, rfl⟩
      go_loopw [12] (fun v wr => ∃ p : Nat, p ≤ 2 ∧ v = .int .i64 p ∧ Tab wr wz.heap.size (F c q I B k) ∧ Tab wr w1.heap.size (U c q I B k p 0) ∧ Below wz.heap.size wz wr) (fun v _ => 2 - (intOf v).toNat)
      case atStart => exact ⟨0, Nat.zero_le _, rfl, TT.out, hone.out, BB.out⟩
      case round =>
        obtain ⟨p, hp, rfl, hT, hO, hB⟩ := hrel
        have T4 := Lib.hid hT
        have O4 := Lib.hid hO
        have B4 := Lib.hid hB
        have z4 := hB.size
        clear hT hO hB
        by_cases hp2 : p < 2
        · have hp3 : (p : Int) < 2 := by omega
          have hp4 : decide ((p : Int) < 2) = true := by simp; omega
          go_wp2_with (fail)
          obtain ⟨wp, rfl⟩ : ∃ wp : World, wp = wr := ⟨_, rfl⟩
          go_loopw [13] (fun v wr => ∃ j : Nat, j ≤ k ∧ v = .int .i64 j ∧ Tab wr wz.heap.size (F c q I B k) ∧ Tab wr w1.heap.size (U c q I B k p j) ∧ Below wz.heap.size wz wr) (fun v _ => k - (intOf v).toNat)
          case atStart => exact ⟨0, Nat.zero_le _, rfl, T4.out, O4.out, B4.out⟩
          case round =>
            obtain ⟨j, hj, rfl, hT, hO, hB⟩ := hrel
            have T5 := Lib.hid hT
            have O5 := Lib.hid hO
            have B5 := Lib.hid hB
            have hg5 := hT.lt
            have hz5 := hB.size
            clear hT hO hB
            by_cases hlt : j < k
            · obtain ⟨b, off, rfl, hb, l0, l1, i0, i1, j0, j1⟩ := HSz.out.at' hlt
              have l0' := (B5.out.cell (p := ⟨b, off + j * 2, none⟩) hb).trans l0
              have l1' := (B5.out.cell (p := ⟨b, off + j * 2 + 1, none⟩) hb).trans l1
              have SE := Lib.hid (HUS.out p j w1.heap.size)
              rw [HSE0.out j] at SE
              have STEP := Lib.hid (HUstep.out p j)
              have SKIP := Lib.hid (HUskip.out p j)
              clear l0 l1
              generalize I j = x at *
              generalize B j = y at *
              have HR := Lib.hid (fun w => rest_any x 286 i0 i1 (by decide) (by decide) w)
              have k0 : (0 : Int) ≤ (j : Int) := by omega
              have k1 : (j : Int) < (k : Int) := by omega
              have x0 : 0 ≤ x % 286 := by omega
              have x1 : x % 286 < 286 := by omega
              by_cases hx : (x % 286) % 2 = (p : Int)
              · have e1 : ((x % 286) % 2 == (p : Int)) = true := by simp [hx]
                have e2 : (x % 2 == (p : Int)) = true := by have : x % 2 = (p : Int) := (by omega); simp [this]
                have ST := Lib.hid (STEP.out hx)
                clear hx STEP SKIP
                go_wp2_with (first
                  | (go_at_call 13; refine (HR.out _).mono ?_; rintro e w2 ⟨rfl, rfl⟩)
                  | (go_at_call 15; refine (SE.out _ O5.out).mono ?_; rintro e w3 ⟨rfl, t3, f3⟩; have O6 := Lib.hid (t3.ext (fun i _ => ST.out i)); have B6 := Lib.hid (B5.out.trans (f3.below (by omega) hz5)); have T6 := Lib.hid (f3.tab (g' := wz.heap.size) T5.out (by omega)); clear t3 f3))
                go_roundw
                case rel => first | exact ⟨j + 1, by omega, by go_num, T6.out, O6.out, B6.out⟩ | ((repeat apply Exists.intro); exact ⟨⟨j + 1, by omega, by go_num, T6.out, O6.out, B6.out⟩, rfl⟩)
                case measure => simp [intOf]; omega
              · have e2 : (x % 2 == (p : Int)) = false := by have : ¬ x % 2 = (p : Int) := (by omega); simp [this]
                have e1 : ((x % 286) % 2 == (p : Int)) = false := by have : ¬ x % 2 = (p : Int) := (by omega); simp [this]
                have SK := Lib.hid (SKIP.out hx)
                clear hx STEP SKIP
                go_wp2_with (go_at_call 13; refine (HR.out _).mono ?_; rintro e w2 ⟨rfl, rfl⟩)
                go_roundw
                case rel => first | exact ⟨j + 1, by omega, by go_num, T5.out, O5.out.ext (fun i _ => SK.out i), B5.out⟩ | ((repeat apply Exists.intro); exact ⟨⟨j + 1, by omega, by go_num, T5.out, O5.out.ext (fun i _ => SK.out i), B5.out⟩, rfl⟩)
                case measure => simp [intOf]; omega
            · obtain rfl : j = k := by omega
              go_wp2_with (fail)
              go_roundw
              case rel => first | exact ⟨p + 1, by omega, by go_num, T5.out, O5.out.ext (fun i _ => HUnext.out p i), B5.out⟩ | ((repeat apply Exists.intro); exact ⟨⟨p + 1, by omega, by go_num, T5.out, O5.out.ext (fun i _ => HUnext.out p i), B5.out⟩, rfl⟩)
              case measure => simp [intOf]; omega
        · obtain rfl : p = 2 := by omega
          have O5 := Lib.hid (O4.out.ext (fun i _ => HUlast.out i))
          clear HUS HUstep HUskip HUnext HUlast HUzero
          go_wp2_with (fail)
          obtain ⟨wp, rfl⟩ : ∃ wp : World, wp = wr := ⟨_, rfl⟩
          go_loopw [15] (fun v wr => ∃ j : Nat, j ≤ 286 ∧ v = .int .i64 j ∧ Tab wr wz.heap.size (F c q I B k) ∧ Tab wr w1.heap.size (F c q I B k) ∧ Below wz.heap.size wz wr) (fun v _ => 286 - (intOf v).toNat)
          case atStart => exact ⟨0, Nat.zero_le _, rfl, T4.out, O5.out, B4.out⟩
          case round =>
            obtain ⟨j, hj, rfl, hT, hO, hB⟩ := hrel
            have T6 := Lib.hid hT
            have O6 := Lib.hid hO
            have B6 := Lib.hid hB
            have z6 := hB.size
            clear hT hO hB
            by_cases hj2 : j < 286
            · have HST := Lib.hid (fun w hT => state_yes wz.heap.size (F c q I B k) j hj2 w hT)
              have HSO := Lib.hid (fun w hT => state_yes w1.heap.size (F c q I B k) j hj2 w hT)
              have TX := Lib.hid T6.out
              have OX := Lib.hid O6.out
              generalize hp' : (F c q I B k j).1 = p at *
              generalize hm' : (F c q I B k j).2 = m at *
              clear hp' hm'
              have j0 : (0 : Int) ≤ (j : Int) := by omega
              have j1 : (j : Int) < 286 := by omega
              have e1 : (p != p) = false := by simp
              have e2 : (m != m) = false := by simp
              have e3 : (p == p) = true := by simp
              have e4 : (m == m) = true := by simp
              go_wp2_with (fail)
              refine (HST.out _ T6.out).mono ?_
              rintro e w4 ⟨rfl, b4⟩
              have X4 := Lib.hid (Box.new w4 23 #[.int .u8 p, .int .u8 m])
              have T7 := Lib.hid ((T6.out.below b4 T6.out.lt).alloc (.cells #[.int .u8 p, .int .u8 m] 23))
              have O7 := Lib.hid ((O6.out.below b4 O6.out.lt).alloc (.cells #[.int .u8 p, .int .u8 m] 23))
              have B7 := Lib.hid ((B6.out.trans (b4.mono z6)).alloc (by have := b4.size; omega) (.cells #[.int .u8 p, .int .u8 m] 23))
              clear b4
              go_wp2_with (fail)
              refine (HSO.out _ O7.out).mono ?_
              rintro e w5 ⟨rfl, b5⟩
              have X5 := X4.out.below b5 (by simp)
              have T8 := Lib.hid ((T7.out.below b5 T7.out.lt).alloc (.cells #[.int .u8 p, .int .u8 m] 23))
              have O8 := Lib.hid ((O7.out.below b5 O7.out.lt).alloc (.cells #[.int .u8 p, .int .u8 m] 23))
              have B8 := Lib.hid ((B7.out.trans (b5.mono B7.out.size)).alloc (by have := B7.out.size; have := b5.size; omega) (.cells #[.int .u8 p, .int .u8 m] 23))
              have f0 : w5.cell? ⟨w4.heap.size, 0, none⟩ = some (.int .u8 p) := by simpa using X5.cell 0
              have f1 : w5.cell? ⟨w4.heap.size, 1, none⟩ = some (.int .u8 m) := by simpa using X5.cell 1
              have s5 : w4.heap.size < w5.heap.size := X5.lt
              clear b5 X5
              go_wp2_with (fail)
              go_roundw
              case rel => first | exact ⟨j + 1, by omega, by go_num, T8.out, O8.out, B8.out⟩ | ((repeat apply Exists.intro); exact ⟨⟨j + 1, by omega, by go_num, T8.out, O8.out, B8.out⟩, rfl⟩)
              case measure => simp [intOf]; omega
            · go_wp2_with (fail)
              refine (alive_yes _).mono ?_
              rintro e w9 ⟨rfl, b9⟩
              have B9 := Lib.hid (B6.out.trans (b9.mono z6))
              clear b9
              go_wp2_with (fail)
              go_ret
              exact ⟨rfl, B0.out.trans (B9.out.mono hwz)⟩

/-! ### The row -/
set_option maxRecDepth 100000 in
theorem lifted (os : Os) (started : os.Started) (H : Type) (enc : TypeId × Value → H) :
    ReturnsInHanded {} Try.checked os 5 .any (Rows.ctxOrderSpec.pre6 enc Try.prog Try.f5 Rows.ctxOrderRow.domain false) (Rows.ctxOrderSpec.post enc Try.prog Try.f5 false true false false) := by
  refine returnsInHanded_of_change (C := Try.checked) own started (by kernel_rfl) Try.func5
    (ChangeSpec.witness6 (enc := enc) (C := Try.checked) false ⟨#[], #[.int .i64 0, .int .i64 0, .slice none 0 0], []⟩ 8 (by kernel_rfl) (by kernel_rfl) (by kernel_rfl) (by kernel_rfl)) ?_
  intro W base args ds gs before hval0 hW hcnd _
  have hval : ∀ (j : Nat) t v, Try.f5.params[j]? = some t → args[j]? = some v → Value.okWide Try.prog W .any base t v := hval0
  have hW' := hW
  obtain ⟨p, q, hA0, hV, rfl, hfz, hnd⟩ := hW
  have hA : DataW.TrodAll enc Try.prog W 0 (fun _ => true) true Try.f5.params.toList args.toList ds p := hA0
  rw [Try.params5] at hA hval
  obtain ⟨v0, vs0, d0, ds0, p0, q0, hargs, rfl, rfl, h0, r0⟩ := trodAll_cons hA
  obtain ⟨v1, vs1, d1, ds1, p1, q1, rfl, rfl, rfl, h1, r1⟩ := trodAll_cons r0
  obtain ⟨v2, vs2, d2, ds2, p2, q2, rfl, rfl, rfl, h2, r2⟩ := trodAll_cons r1

  obtain ⟨rfl, rfl, rfl⟩ := trodAll_nil r2
  obtain rfl : args = #[v0, v1, v2] := by cases args; simp_all
  obtain ⟨rfl, rfl⟩ := trodVars_none hV
  obtain ⟨a0, rfl, rfl, rfl, w0⟩ := open_int Try.underlying3 (hval 0 3 v0 rfl rfl) h0
  obtain ⟨a1, rfl, rfl, rfl, w1⟩ := open_int Try.underlying3 (hval 1 3 v1 rfl rfl) h1

  obtain ⟨a2, len2, cap2, rfl⟩ := okWide_slice Try.underlying29 (hval 2 29 v2 rfl rfl)
  have k2 := h2
  have lt2 : ∀ x ∈ p2, x.block < W.heap.size := by obtain ⟨m, hm⟩ := k2; exact DataW.trod_lt m _ _ _ hm
  obtain ⟨I, B, hl, hcap, hS, _⟩ : ∃ I B, len2 ≤ cap2 ∧ cap2 ≤ maxLen ∧ Sees W a2 len2 I B ∧ True := by
    obtain ⟨fuel, hf⟩ := h2
    obtain ⟨I, B, e1, e2, e3, _⟩ := open_sees hf
    exact ⟨I, B, e1, e2, e3, trivial⟩
  clear hA0 hval0
  refine (walk a0 a1 a2 len2 cap2 I B W w0 w1 hl hcap hS).mono fun e W' ⟨he, bel⟩ => ?_
  subst he
  exact ⟨_, rfl, _, _, _, [], _, [], hW', trodAll_mk1 (shut_bool Try.underlying4 _), (trodAll_cons_mk (shut_int Try.underlying3 w0) (trodAll_cons_mk (shut_int Try.underlying3 w1) (trodAll_cons_mk (Below.trod laidOut (by kernel_rfl) (of_decide_eq_true (by kernel_rfl)) k2 bel lt2) trodAll_mk0))), rfl, bel.frame _, fun h => by cases h⟩

theorem over : Rows.ctxOrderRow.holds Try.pinned (OpenSpec.ofChange Rows.ctxOrderSpec) :=
  OpenClaim.holds_of_wide 5 Try.f5 rfl rfl rfl rfl rfl rfl rfl ⟨rfl, rfl, rfl, rfl, rfl⟩ rfl rfl rfl rfl rfl (by kernel_rfl) Try.func5 (by kernel_rfl)
    (of_decide_eq_true (by kernel_rfl)) (by unfold Func.isWrapper; first | (rw [if_pos (by decide +kernel)]; kernel_rfl) | (rw [if_neg (by decide +kernel)]; exact ⟨rfl, rfl⟩))
    (fun os started H enc _ => lifted os started H enc)

/-- The statement. -/
theorem proved : Rows.CtxOrderSaid := over
#print axioms proved
end Go.Proofs.Ytomeiofieheggaa.ctxOrder
