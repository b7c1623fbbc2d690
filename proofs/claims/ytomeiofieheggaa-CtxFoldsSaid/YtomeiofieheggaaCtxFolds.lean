/- CtxFolds: after any bits the state of each context is its first state after the bits that it saw itself, in their order, and is valid; no conditions. -/
import Derived.Test.YtomeiofieheggaaRows
import Derived.WalkKit
import Derived.ProofKit
import Derived.OpenShut
import Derived.ShutString
import Derived.ChangeOld
import Derived.Below
import Derived.Deep.RegionHeld3
import Derived.Deep.DeepCutAuto
import Derived.Test.YtomeiofieheggaaFold
namespace Go.Proofs.Ytomeiofieheggaa.ctxFolds
open Go.ChangeShapes Go.WideShapes Go.ChangeAt Go.RowKit
open Go.ChangeMaps (open_string shut_string)
set_option linter.unusedVariables false
set_option linter.unusedSimpArgs false

theorem own : ownKnob Try.prog.godebug = none := by kernel_rfl
theorem laidOut : laidOutB Try.prog = true := by kernel_rfl

set_option maxRecDepth 100000 in
set_option maxHeartbeats 16000000 in
theorem walk (a0 a1 : Int) (a2 : Option Addr) (len2 cap2 : Nat) (I B : Nat → Int) (w : World) (w0 : (Lit.int .i64 a0).wf = true) (w1 : (Lit.int .i64 a1).wf = true) (hl : len2 ≤ cap2) (hcap : cap2 ≤ maxLen) (hS : Sees w a2 len2 I B) :
    Calls Try.prog 4 #[.int .i64 a0, .int .i64 a1, .slice a2 len2 cap2] w fun e w' => e = .returned (.bool true) ∧ Below w.heap.size w w' := by
  have hr0 := bounds_i64 w0
  have hr1 := bounds_i64 w1
  have R0 := Lib.hid (fun w => rest_any a0 4 hr0.1 hr0.2 (by decide) (by decide) w)
  have R1 := Lib.hid (fun w => rest_any a1 52 hr1.1 hr1.2 (by decide) (by decide) w)
  have c0 : 0 ≤ a0 % 4 := by omega
  have c1 : a0 % 4 < 4 := by omega
  have q0 : 0 ≤ a1 % 52 := by omega
  have q1 : a1 % 52 < 52 := by omega
  clear hr0 hr1 w0 w1
  generalize a0 % 4 = c at *
  generalize a1 % 52 = q at *
  obtain ⟨n, hn, hn1, hn2, hn3⟩ : ∃ n : Nat, (if (100 : Int) < (len2 : Int) then (100 : Int) else (len2 : Int)) = (n : Int) ∧ n ≤ 100 ∧ n ≤ len2 ∧ n ≤ cap2 := by
    by_cases h : 100 < len2
    · exact ⟨100, by rw [if_pos (by omega)]; rfl, by omega, by omega, by omega⟩
    · exact ⟨len2, by rw [if_neg (by omega)], by omega, by omega, by omega⟩
  have HS := Lib.hid (hS.less hn2)
  clear hS
  unfold maxLen at hcap
  go_enter Try.func4, Try.ntmps4
  go_wp2_with (fail)
  go_quiet ((first
    | (go_at_call_of 13 (Value.int .i64 a0); exact Calls.quiet_of_same ((R0.out _).mono fun _ _ h => ⟨h.1, h.2.symm⟩))
    | (go_at_call_of 13 (Value.int .i64 a1); exact Calls.quiet_of_same ((R1.out _).mono fun _ _ h => ⟨h.1, h.2.symm⟩))))
  have B0 := Lib.hid ((Below.refl w.heap.size w).drewN nq)
  have HSz := Lib.hid (HS.out.mono B0.out)
  have hw0 : (w.drewN nq).heap.size = w.heap.size := rfl
  have hwz : w.heap.size ≤ (w.drewN nq).heap.size := Nat.le_refl _
  clear hw0 HS
  generalize w.drewN nq = wz at *
  have HN := Lib.hid (fun w => new_yes c q c0 (by omega) q0 (by omega) w)
  have HSEE := Lib.hid (fun k g w hT => see_any g (F c q I B k) (I k % 286) (B k % 2) (F_good c q I B k) (by omega) w hT)
  have HFS := Lib.hid (fun k => F_succ c q I B k)
  have HSE0 := Lib.hid (fun k => seeE_zero I B k)
  have HFG := Lib.hid (F_good c q I B n)
  have HFO := Lib.hid (fun i hi w hS => fold_any i hi c q c0 (by omega) q0 (by omega) a2 n cap2 hn1 I B w hS)
  have HF0 := Lib.hid (F_zero c q I B)
  clear hn hl hcap
  go_wp2_with (fail)
  refine (HN.out _).mono ?_
  rintro e w1 ⟨rfl, t1, b1⟩
  have T1 := Lib.hid t1
  have B1 := Lib.hid b1
  clear t1 b1
  go_wp2_with (fail)
  go_loopw [9] (fun v wr => ∃ k : Nat, k ≤ n ∧ v = .int .i64 k ∧ Tab wr wz.heap.size (F c q I B k) ∧ Below wz.heap.size wz wr) (fun v _ => n - (intOf v).toNat)
  case atStart => exact ⟨0, Nat.zero_le _, rfl, by rw [HF0.out]; exact T1.out, B1.out⟩
  case round =>
    obtain ⟨k, hk, rfl, hT, hB⟩ := hrel
    have TT := Lib.hid hT
    have BB := Lib.hid hB
    have hlt' := hT.lt
    clear hT hB
    by_cases hlt : k < n
    · obtain ⟨b, off, rfl, hb, l0, l1, i0, i1, j0, j1⟩ := HSz.out.at' hlt
      have l0' := (BB.out.cell (p := ⟨b, off + k * 2, none⟩) hb).trans l0
      have l1' := (BB.out.cell (p := ⟨b, off + k * 2 + 1, none⟩) hb).trans l1
      have SE := Lib.hid (HSEE.out k wz.heap.size)
      rw [HSE0.out k, HFS.out k] at SE
      have L0 := Lib.hid l0
      have L1 := Lib.hid l1
      clear l0 l1
      generalize I k = x at *
      generalize B k = y at *
      have HR := Lib.hid (fun w => rest_any x 286 i0 i1 (by decide) (by decide) w)
      have k0 : (0 : Int) ≤ (k : Int) := by omega
      have k1 : (k : Int) < (n : Int) := by omega
      have hm : (y.tmod 2) = y % 2 := Int.tmod_eq_emod_of_nonneg j0
      go_wp2_with (fail)
      go_region_held3 (fun w' => w'.cell? ⟨b, off + k * 2, none⟩ = some (.int .i64 x) ∧ w'.cell? ⟨b, off + k * 2 + 1, none⟩ = some (.int .u8 y))
        (first | exact ⟨l0', l1'⟩ | exact ⟨by simpa using l0', by simpa using l1'⟩ | exact ⟨z0, z1⟩)
        (first
          | (go_at_call 13; refine (HR.out _).mono ?_; rintro e w2 ⟨rfl, rfl⟩)
          | (go_at_call 15; refine (SE.out _ (by exact TT.out)).mono ?_; rintro e w3 ⟨rfl, t3, f3⟩; have b3 := BB.out.drew.trans (f3.below (Nat.le_refl _) BB.out.size); have z0 := (b3.cell (p := ⟨b, off + k * 2, none⟩) hb).trans L0.out; have z1 := (b3.cell (p := ⟨b, off + k * 2 + 1, none⟩) hb).trans L1.out; have T3 := Lib.hid t3; have B3 := Lib.hid b3; clear b3 t3 f3))
      all_goals
        go_wp2_with (fail)
        go_roundw
        case rel => exact ⟨k + 1, by omega, by go_num, T3.out, B3.out⟩
        case measure => simp [intOf]; omega
    · obtain rfl : k = n := by omega
      clear HSEE HFS HSE0 HF0
      go_wp2_with (fail)
      obtain ⟨wo, rfl⟩ : ∃ wo : World, wo = wr := ⟨_, rfl⟩
      go_loopw [10] (fun v wr => ∃ j : Nat, j ≤ 286 ∧ v = .int .i64 j ∧ Tab wr wz.heap.size (F c q I B k) ∧ Below wz.heap.size wz wr) (fun v _ => 286 - (intOf v).toNat)
      case atStart => exact ⟨0, Nat.zero_le _, rfl, TT.out, BB.out⟩
      case round =>
        obtain ⟨j, hj, rfl, hT, hB⟩ := hrel
        have T2 := Lib.hid hT
        have B2 := Lib.hid hB
        have s2 := hB.size
        clear hT hB
        by_cases hj2 : j < 286
        · have HST := Lib.hid (state_yes wz.heap.size (F c q I B k) j hj2 wr T2.out)
          have HFL := Lib.hid (fun w (hb : Below wz.heap.size wz w) => HFO.out j hj2 w (HSz.out.mono hb))
          obtain ⟨p0, p1, m0, m1⟩ := HFG.out j hj2
          have HCK := Lib.hid (fun w => check_yes (F c q I B k j).1 (F c q I B k j).2 p1 m1 w 18 (.inl rfl))
          rw [show Fo c q I B j k = F c q I B k j from rfl] at HFL
          generalize (F c q I B k j).1 = p at *
          generalize (F c q I B k j).2 = m at *
          have j0 : (0 : Int) ≤ (j : Int) := by omega
          have j1 : (j : Int) < 286 := by omega
          go_wp2_with (fail)
          refine HST.out.mono ?_
          rintro e w4 ⟨rfl, b4⟩
          have B4 := Lib.hid (B2.out.trans (b4.mono s2))
          have T4 := Lib.hid (T2.out.below b4 T2.out.lt)
          have s4 := B4.out.size
          clear b4
          have X4 := Lib.hid (Box.new w4 23 #[.int .u8 p, .int .u8 m])
          have BA := Lib.hid (B4.out.alloc s4 (.cells #[.int .u8 p, .int .u8 m] 23))
          have TA := Lib.hid (T4.out.alloc (.cells #[.int .u8 p, .int .u8 m] 23))
          have hsW : w4.heap.size < (w4.alloc (.cells #[.int .u8 p, .int .u8 m] 23)).heap.size := by simp
          have hgW : wz.heap.size < (w4.alloc (.cells #[.int .u8 p, .int .u8 m] 23)).heap.size := by have := T4.out.lt; simp; omega
          go_wp2_with (fail)
          generalize w4.alloc (.cells #[.int .u8 p, .int .u8 m] 23) = W at *
          have TWO := Lib.hid (show ∀ w', Below W.heap.size W w' → (Below W.heap.size W w' ∧ w'.cell? ⟨w4.heap.size, 0, none⟩ = some (.int .u8 p) ∧ w'.cell? ⟨w4.heap.size, 1, none⟩ = some (.int .u8 m)) from by
            intro w' hb
            have e1 := X4.out.below hb hsW
            exact ⟨hb, by simpa using e1.cell 0, by simpa using e1.cell 1⟩)
          have E17 := Lib.hid (show ∀ w', Below W.heap.size W w' → Calls Try.prog 17 #[.int .i64 (j : Int), .int .i64 c, .int .i64 q, .slice a2 k cap2] w' fun e w'' => e = .returned (.agg #[.int .u8 p, .int .u8 m]) ∧ Below W.heap.size W w'' from fun w' hb =>
            (HFL.out w' (BA.out.trans (hb.mono (by omega)))).mono fun e w'' ⟨he, hb2⟩ => ⟨he, hb.trans (hb2.mono hb.size)⟩)
          have E18 := Lib.hid (show ∀ w', Below W.heap.size W w' → Calls Try.prog 18 #[.agg #[.int .u8 p, .int .u8 m]] w' fun e w'' => e = .returned (.int .i64 0) ∧ Below W.heap.size W w'' from fun w' hb =>
            (HCK.out w').mono fun e w'' ⟨he, hb2⟩ => ⟨he, hb.trans (hb2.mono hb.size)⟩)
          have hb0 := Below.refl W.heap.size W
          obtain ⟨_, x0, x1⟩ := TWO.out W hb0
          have e1 : (p != p) = false := by simp
          have e2 : (m != m) = false := by simp
          have e3 : (p == p) = true := by simp
          have e4 : (m == m) = true := by simp
          go_region_held3 (fun w' => Below W.heap.size W w' ∧ w'.cell? ⟨w4.heap.size, 0, none⟩ = some (.int .u8 p) ∧ w'.cell? ⟨w4.heap.size, 1, none⟩ = some (.int .u8 m))
            (exact TWO.out _ (by repeat (first | assumption | exact And.left (by assumption) | refine Below.drew ?_)))
            (first
              | (go_at_call 17; (with_reducible refine (E17.out _ (by first | assumption | exact And.left (by assumption))).mono ?_); rintro e w8 ⟨rfl, bb⟩)
              | (go_at_call 18; (with_reducible refine (E18.out _ (by first | assumption | exact And.left (by assumption))).mono ?_); rintro e w8 ⟨rfl, bb⟩))
          all_goals
            have TF := Lib.hid (TA.out.below bb hgW)
            have BF := Lib.hid (BA.out.trans (bb.mono (by omega)))
            go_wp2_with (fail)
            go_roundw
            case rel => exact ⟨j + 1, by omega, by go_num, TF.out, BF.out⟩
            case measure => simp [intOf]; omega
        · go_wp2_with (fail)
          refine (alive_yes _).mono ?_
          rintro e w9 ⟨rfl, b9⟩
          have B9 := Lib.hid (B2.out.trans (b9.mono s2))
          clear b9
          go_wp2_with (fail)
          go_ret
          exact ⟨rfl, B0.out.trans (B9.out.mono hwz)⟩

/-! ### The row -/
set_option maxRecDepth 100000 in
theorem lifted (os : Os) (started : os.Started) (H : Type) (enc : TypeId × Value → H) :
    ReturnsInHanded {} Try.checked os 4 .any (Rows.ctxFoldsSpec.pre6 enc Try.prog Try.f4 Rows.ctxFoldsRow.domain false) (Rows.ctxFoldsSpec.post enc Try.prog Try.f4 false true false false) := by
  refine returnsInHanded_of_change (C := Try.checked) own started (by kernel_rfl) Try.func4
    (ChangeSpec.witness6 (enc := enc) (C := Try.checked) false ⟨#[], #[.int .i64 0, .int .i64 0, .slice none 0 0], []⟩ 8 (by kernel_rfl) (by kernel_rfl) (by kernel_rfl) (by kernel_rfl)) ?_
  intro W base args ds gs before hval0 hW hcnd _
  have hval : ∀ (j : Nat) t v, Try.f4.params[j]? = some t → args[j]? = some v → Value.okWide Try.prog W .any base t v := hval0
  have hW' := hW
  obtain ⟨p, q, hA0, hV, rfl, hfz, hnd⟩ := hW
  have hA : DataW.TrodAll enc Try.prog W 0 (fun _ => true) true Try.f4.params.toList args.toList ds p := hA0
  rw [Try.params4] at hA hval
  obtain ⟨v0, vs0, d0, ds0, p0, q0, hargs, rfl, rfl, h0, r0⟩ := trodAll_cons hA
  obtain ⟨v1, vs1, d1, ds1, p1, q1, rfl, rfl, rfl, h1, r1⟩ := trodAll_cons r0
  obtain ⟨v2, vs2, d2, ds2, p2, q2, rfl, rfl, rfl, h2, r2⟩ := trodAll_cons r1

  obtain ⟨rfl, rfl, rfl⟩ := trodAll_nil r2
  obtain rfl : args = #[v0, v1, v2] := by cases args; simp_all
  obtain ⟨rfl, rfl⟩ := trodVars_none hV
  obtain ⟨a0, rfl, rfl, rfl, w0⟩ := open_int Try.underlying3 (hval 0 3 v0 rfl rfl) h0
  obtain ⟨a1, rfl, rfl, rfl, w1⟩ := open_int Try.underlying3 (hval 1 3 v1 rfl rfl) h1

  obtain ⟨a2, len2, cap2, rfl⟩ := okWide_slice Try.underlying29 (hval 2 29 v2 rfl rfl)
  have k2 := h2
  have lt2 : ∀ x ∈ p2, x.block < W.heap.size := by obtain ⟨m, hm⟩ := k2; exact DataW.trod_lt m _ _ _ hm
  obtain ⟨I, B, hl, hcap, hS, _⟩ : ∃ I B, len2 ≤ cap2 ∧ cap2 ≤ maxLen ∧ Sees W a2 len2 I B ∧ True := by
    obtain ⟨fuel, hf⟩ := h2
    obtain ⟨I, B, e1, e2, e3, _⟩ := open_sees hf
    exact ⟨I, B, e1, e2, e3, trivial⟩
  clear hA0 hval0
  refine (walk a0 a1 a2 len2 cap2 I B W w0 w1 hl hcap hS).mono fun e W' ⟨he, bel⟩ => ?_
  subst he
  exact ⟨_, rfl, _, _, _, [], _, [], hW', trodAll_mk1 (shut_bool Try.underlying4 _), (trodAll_cons_mk (shut_int Try.underlying3 w0) (trodAll_cons_mk (shut_int Try.underlying3 w1) (trodAll_cons_mk (Below.trod laidOut (by kernel_rfl) (of_decide_eq_true (by kernel_rfl)) k2 bel lt2) trodAll_mk0))), rfl, bel.frame _, fun h => by cases h⟩

theorem over : Rows.ctxFoldsRow.holds Try.pinned (OpenSpec.ofChange Rows.ctxFoldsSpec) :=
  OpenClaim.holds_of_wide 4 Try.f4 rfl rfl rfl rfl rfl rfl rfl ⟨rfl, rfl, rfl, rfl, rfl⟩ rfl rfl rfl rfl rfl (by kernel_rfl) Try.func4 (by kernel_rfl)
    (of_decide_eq_true (by kernel_rfl)) (by unfold Func.isWrapper; first | (rw [if_pos (by decide +kernel)]; kernel_rfl) | (rw [if_neg (by decide +kernel)]; exact ⟨rfl, rfl⟩))
    (fun os started H enc _ => lifted os started H enc)

/-- The statement. -/
theorem proved : Rows.CtxFoldsSaid := over
#print axioms proved
end Go.Proofs.Ytomeiofieheggaa.ctxFolds
