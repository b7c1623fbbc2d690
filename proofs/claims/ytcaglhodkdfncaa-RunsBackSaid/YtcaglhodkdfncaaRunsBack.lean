/- For every block of 4, 15 or 16 coefficients that some numbers give, runs.Block of runs.Of of the block is the block; no conditions. -/
import Derived.Test.YtcaglhodkdfncaaRows
import Derived.WalkKit
import Derived.ProofKit
import Derived.OpenShut
import Derived.ShutString
import Derived.ChangeOld
import Derived.Below
import Derived.Test.YtcaglhodkdfncaaBad
import Derived.Test.YtcaglhodkdfncaaBlockBad
namespace Go.Proofs.Ytcaglhodkdfncaa.runsBack
open Go.ChangeShapes Go.WideShapes Go.ChangeAt Go.RowKit
open Go.ChangeMaps (open_string shut_string)
set_option linter.unusedVariables false

theorem own : ownKnob Try.prog.godebug = none := by kernel_rfl
theorem laidOut : laidOutB Try.prog = true := by kernel_rfl

/-! ### The walk -/
theorem fits_of_16 {zs : List Int} (h : Fits16 zs) : Fits zs := fun v hv => by have := h v hv; omega

theorem blkSpec_of {zs : List Int} (hs : zs.length = 4 ∨ zs.length = 15 ∨ zs.length = 16) (hf : Fits zs) : blkSpec (zs.length : Int) (lev zs) (zer zs) (bef zs) = (zs, 0) := by
  unfold blkSpec
  rw [if_pos (by omega), if_pos (show Fits (lev zs) from fun v hv => hf v (lev_mem zs v hv)), Int.toNat_natCast, if_pos (poss_of zs), blk_of]

set_option maxHeartbeats 2000000 in
theorem walk (a0 : Option Addr) (len0 cap0 : Nat) (z0 : List Int) (a1 : Int) (w : World) (w0 : IsRow .i16 w a0 len0 cap0 z0) (w1 : (Lit.int .u8 a1).wf = true) :
    Calls Try.prog 6 #[.slice a0 len0 cap0, .int .u8 a1] w fun e w' => e = .returned (.bool true) ∧ Below w.heap.size w w' := by
  have hlenm : len0 ≤ 9223372036854775807 := by
    rcases w0 with ⟨_, rfl, _⟩ | ⟨x, _, h1, h2, _⟩
    · omega
    · simp only [maxLen] at h2; omega
  have W0 := Lib.hid w0
  have W1 := Lib.hid w1
  clear w0 w1
  go_enter Try.func6, Try.ntmps6
  go_wp2_with (fail)
  refine (lsized a0 len0 cap0 z0 a1 _ W0.out hlenm W1.out).mono ?_
  rintro e w1 ⟨v1, zs, rfl, o1, hsz, hf16, b1⟩
  have hl16 : zs.length ≤ 16 := by omega
  have I1 := (ints_of_own o1 (by omega)).1
  obtain ⟨a1', c1', rfl⟩ := I1.form
  have J1 := Lib.hid I1
  have B1 := Lib.hid b1
  have HSZ := Lib.hid hsz
  have HF := Lib.hid (fits_of_16 hf16)
  clear o1 I1 b1 hsz hf16
  go_wp2_with (fail)
  refine (of_yes _ zs _ J1.out HF.out HSZ.out).mono ?_
  rintro e w2 ⟨sL, sB, rfl, iL, iB, b2⟩
  obtain ⟨aL, cL, rfl⟩ := iL.form
  obtain ⟨aB, cB, rfl⟩ := iB.form
  have hb3 : Below w2.heap.size w2 (w2.alloc (.cells #[.slice aL (lev zs).length cL, .int .i64 (zer zs), .slice aB (bef zs).length cB] 25)) := (Below.refl _ w2).alloc (Nat.le_refl _) _
  have J2 := Lib.hid ((J1.out.below b2).below hb3)
  have A2 := Lib.hid (iL.below hb3)
  have E2 := Lib.hid (iB.below hb3)
  have B2 := Lib.hid b2
  have B3 := Lib.hid hb3
  have hz0 := zer_nonneg zs
  have hz1 : zer zs ≤ 16 := by have := (poss_of zs).z1; omega
  have HBS := Lib.hid (blkSpec_of HSZ.out HF.out)
  clear b2 iL iB hb3
  go_wp2_with (fail)
  refine (block_any _ _ _ _ (lev zs) (bef zs) _ A2.out E2.out (by omega) (by omega)).mono ?_
  rintro e w3 ⟨v3, rfl, o3, b3⟩
  rw [HBS.out] at o3 ⊢
  have I3 := (ints_of_own o3 (by simp only; omega)).1
  simp only at I3 ⊢
  obtain ⟨a3, c3, rfl⟩ := I3.form
  have J3 := Lib.hid (J2.out.below b3)
  have K3 := Lib.hid I3
  have B4 := Lib.hid b3
  clear o3 I3 b3
  go_wp2_with (fail)
  refine (equalInts_same _ _ zs _ K3.out J3.out).mono ?_
  rintro e w4 ⟨rfl, b4⟩
  have B5 := Lib.hid b4
  clear b4
  go_wp2_with (fail)
  refine (awake_yes _).mono ?_
  rintro e w5 ⟨rfl, b5⟩
  have B6 := Lib.hid b5
  clear b5
  go_wp2_with (fail)
  go_ret
  refine ⟨rfl, ?_⟩
  have s1 := B1.out.size
  have s2 := B2.out.size
  have s3 := B3.out.size
  have s4 := B4.out.size
  have s5 := B5.out.size
  exact B1.out.trans ((B2.out.mono (by omega)).trans ((B3.out.mono (by omega)).trans ((B4.out.mono (by omega)).trans ((B5.out.mono (by omega)).trans (B6.out.mono (by omega))))))

/-! ### The row -/
set_option maxRecDepth 100000 in
theorem lifted (os : Os) (started : os.Started) (H : Type) (enc : TypeId × Value → H) :
    ReturnsInHanded {} Try.checked os 6 .any (Rows.runsBackSpec.pre6 enc Try.prog Try.f6 Rows.runsBackRow.domain false) (Rows.runsBackSpec.post enc Try.prog Try.f6 false true false false) := by
  refine returnsInHanded_of_change (C := Try.checked) own started (by kernel_rfl) Try.func6
    (ChangeSpec.witness6 (enc := enc) (C := Try.checked) false ⟨#[], #[.slice none 0 0, .int .u8 0], []⟩ 8 (by kernel_rfl) (by kernel_rfl) (by kernel_rfl) (by kernel_rfl)) ?_
  intro W base args ds gs before hval0 hW hcnd _
  have hval : ∀ (j : Nat) t v, Try.f6.params[j]? = some t → args[j]? = some v → Value.okWide Try.prog W .any base t v := hval0
  have hW' := hW
  obtain ⟨p, q, hA0, hV, rfl, hfz, hnd⟩ := hW
  have hA : DataW.TrodAll enc Try.prog W 0 (fun _ => true) true Try.f6.params.toList args.toList ds p := hA0
  rw [Try.params6] at hA hval
  obtain ⟨v0, vs0, d0, ds0, p0, q0, hargs, rfl, rfl, h0, r0⟩ := trodAll_cons hA
  obtain ⟨v1, vs1, d1, ds1, p1, q1, rfl, rfl, rfl, h1, r1⟩ := trodAll_cons r0
  obtain ⟨rfl, rfl, rfl⟩ := trodAll_nil r1
  obtain rfl : args = #[v0, v1] := by cases args; simp_all
  obtain ⟨rfl, rfl⟩ := trodVars_none hV
  obtain ⟨a0, len0, cap0, rfl⟩ := okWide_slice Try.underlying34 (hval 0 34 v0 rfl rfl)
  have k0 := h0
  have lt0 : ∀ x ∈ p0, x.block < W.heap.size := by obtain ⟨m, hm⟩ := k0; exact DataW.trod_lt m _ _ _ hm
  obtain ⟨z0, w0⟩ : ∃ zs, IsRow .i16 W a0 len0 cap0 zs := by
    obtain ⟨fuel, hf⟩ := h0
    rcases open_ints Try.underlying34 Try.underlying46 (by kernel_rfl) hf with ⟨hcs, _⟩ | ⟨x, l, c, zs, hcs, _, hl, hm, hz, _, hcell, hwz⟩
    · simp [Value.cells] at hcs
      obtain ⟨rfl, rfl, rfl⟩ := hcs
      exact ⟨[], .inl ⟨rfl, rfl, rfl, rfl⟩⟩
    · simp [Value.cells] at hcs
      obtain ⟨rfl, rfl, rfl⟩ := hcs
      exact ⟨zs, .inr ⟨_, rfl, hl, hm, by simpa using hz, hcell, hwz⟩⟩
  obtain ⟨a1, rfl, rfl, rfl, w1⟩ := open_int Try.underlying5 (hval 1 5 v1 rfl rfl) h1
  clear hA0 hval0
  refine (walk a0 len0 cap0 z0 a1 W w0 w1).mono fun e W' ⟨he, bel⟩ => ?_
  subst he
  exact ⟨_, rfl, _, _, _, [], _, [], hW', trodAll_mk1 (shut_bool Try.underlying4 _), (trodAll_cons_mk (Below.trod laidOut (by kernel_rfl) (of_decide_eq_true (by kernel_rfl)) k0 bel lt0) (trodAll_cons_mk (shut_int Try.underlying5 w1) trodAll_mk0)), rfl, bel.frame _, fun h => by cases h⟩

theorem over : Rows.runsBackRow.holds Try.pinned (OpenSpec.ofChange Rows.runsBackSpec) :=
  OpenClaim.holds_of_wide 6 Try.f6 rfl rfl rfl rfl rfl rfl rfl ⟨rfl, rfl, rfl, rfl, rfl⟩ rfl rfl rfl rfl rfl (by kernel_rfl) Try.func6 (by kernel_rfl)
    (of_decide_eq_true (by kernel_rfl)) (by unfold Func.isWrapper; first | (rw [if_pos (by decide +kernel)]; kernel_rfl) | (rw [if_neg (by decide +kernel)]; exact ⟨rfl, rfl⟩))
    (fun os started H enc _ => lifted os started H enc)

/-- The statement. -/
theorem proved : Rows.RunsBackSaid := over
#print axioms proved
end Go.Proofs.Ytcaglhodkdfncaa.runsBack
