/- PlaceMatches: At, Block, Left, Above, ChLeft and ChAbove return what the reference returns, for any numbers. -/
import Derived.Test.YtmackljhomameaaRows
import Derived.WalkKit
import Derived.ProofKit
import Derived.OpenShut
import Derived.Below
import Derived.Test.YtmackljhomameaaRef
import Derived.ShutString
namespace Go.Proofs.Ytmackljhomameaa.placeMatches
open Go.ChangeShapes Go.WideShapes Go.ChangeAt Go.RowKit
open Go.ChangeMaps (open_string shut_string)
set_option linter.unusedVariables false

theorem own : ownKnob Try.prog.godebug = none := by kernel_rfl

/-! ### The walk -/
set_option maxRecDepth 100000 in
set_option maxHeartbeats 4000000 in
theorem walk (a0 : Int) (a1 : Int) (a2 : Int) (w0 : (Lit.int .i64 a0).wf = true) (w1 : (Lit.int .i64 a1).wf = true) (w2 : (Lit.int .i64 a2).wf = true) (w : World) :
    Calls Try.prog 7 #[.int .i64 a0, .int .i64 a1, .int .i64 a2] w fun e w' => e = .returned (.bool true) ∧ Below w.heap.size w w' := by
  have H17 := Lib.hid (at_any a0)
  have H20 := Lib.hid (rat_any a0)
  have H18 := Lib.hid (block_any a1 a2)
  have H21 := Lib.hid (rblock_any a1 a2)
  have H13 := Lib.hid (left_any a0)
  have H22 := Lib.hid (rleft_any a0)
  have H14 := Lib.hid (above_any a0)
  have H23 := Lib.hid (rabove_any a0)
  have H15 := Lib.hid (chleft_any a0)
  have H24 := Lib.hid (rchleft_any a0)
  have H16 := Lib.hid (chabove_any a0)
  have H25 := Lib.hid (rchabove_any a0)
  generalize aX a0 = x1 at *
  generalize aY a0 = x2 at *
  generalize aE a0 = x3 at *
  generalize bV a1 a2 = x4 at *
  generalize bE a1 a2 = x5 at *
  generalize mvV 16 (mvX 16 4) a0 = x6 at *
  generalize mvV 16 (mvY 16 4) a0 = x7 at *
  generalize mvV 4 (mvX 4 2) a0 = x8 at *
  generalize mvV 4 (mvY 4 2) a0 = x9 at *
  generalize mvB 16 (gx 16) a0 = y1 at *
  generalize mvB 16 (gy 16) a0 = y2 at *
  generalize mvB 4 (gx 4) a0 = y3 at *
  generalize mvB 4 (gy 4) a0 = y4 at *
  generalize mvE 16 a0 = x10 at *
  generalize mvE 4 a0 = x11 at *
  go_enter Try.func7, Try.ntmps7
  go_wp2_with (first
    | (go_at_call 20; refine (H20.out _).mono ?_; rintro e w' ⟨rfl, rfl⟩)
    | (go_at_call 21; refine (H21.out _).mono ?_; rintro e w' ⟨rfl, rfl⟩)
    | (go_at_call 22; refine (H22.out _).mono ?_; rintro e w' ⟨rfl, rfl⟩)
    | (go_at_call 23; refine (H23.out _).mono ?_; rintro e w' ⟨rfl, rfl⟩)
    | (go_at_call 24; refine (H24.out _).mono ?_; rintro e w' ⟨rfl, rfl⟩)
    | (go_at_call 25; refine (H25.out _).mono ?_; rintro e w' ⟨rfl, rfl⟩)
    | (go_at_call 17; refine (H17.out _).mono ?_; rintro e w' ⟨rfl, b1⟩; have B17 := Lib.hid b1; clear b1)
    | (go_at_call 18; refine (H18.out _).mono ?_; rintro e w' ⟨rfl, b1⟩; have B18 := Lib.hid (B17.out.trans (b1.mono B17.out.size)); clear b1)
    | (go_at_call 13; refine (H13.out _).mono ?_; rintro e w' ⟨rfl, b1⟩; have B13 := Lib.hid (B18.out.trans (b1.mono B18.out.size)); clear b1)
    | (go_at_call 14; refine (H14.out _).mono ?_; rintro e w' ⟨rfl, b1⟩; have B14 := Lib.hid (B13.out.trans (b1.mono B13.out.size)); clear b1)
    | (go_at_call 15; refine (H15.out _).mono ?_; rintro e w' ⟨rfl, b1⟩; have B15 := Lib.hid (B14.out.trans (b1.mono B14.out.size)); clear b1)
    | (go_at_call 16; refine (H16.out _).mono ?_; rintro e w' ⟨rfl, b1⟩; have B16 := Lib.hid (B15.out.trans (b1.mono B15.out.size)); clear b1)
    | (go_at_call 11; refine (alive_yes _).mono ?_; rintro e w' ⟨rfl, b1⟩; have B11 := Lib.hid (B16.out.trans (b1.mono B16.out.size)); clear b1))
  go_ret
  exact ⟨rfl, B11.out⟩


/-! ### The row -/
set_option maxRecDepth 100000 in
theorem lifted (os : Os) (started : os.Started) (H : Type) (enc : TypeId × Value → H) :
    ReturnsInHanded {} Try.checked os 7 .any (Rows.placeMatchesSpec.pre6 enc Try.prog Try.f7 Rows.placeMatchesRow.domain false) (Rows.placeMatchesSpec.post enc Try.prog Try.f7 false true false false) := by
  refine returnsInHanded_of_change (C := Try.checked) own started (by kernel_rfl) Try.func7
    (ChangeSpec.witness6 (enc := enc) (C := Try.checked) false ⟨#[], #[.int .i64 0, .int .i64 0, .int .i64 0], []⟩ 8 (by kernel_rfl) (by kernel_rfl) (by kernel_rfl) (by kernel_rfl)) ?_
  intro W base args ds gs before hval0 hW hcnd _
  have hval : ∀ (j : Nat) t v, Try.f7.params[j]? = some t → args[j]? = some v → Value.okWide Try.prog W .any base t v := hval0
  have hW' := hW
  obtain ⟨p, q, hA0, hV, rfl, hfz, hnd⟩ := hW
  have hA : DataW.TrodAll enc Try.prog W 0 (fun _ => true) true Try.f7.params.toList args.toList ds p := hA0
  rw [Try.params7] at hA hval
  obtain ⟨v0, vs0, d0, ds0, p0, q0, hargs, rfl, rfl, h0, r0⟩ := trodAll_cons hA
  obtain ⟨v1, vs1, d1, ds1, p1, q1, rfl, rfl, rfl, h1, r1⟩ := trodAll_cons r0
  obtain ⟨v2, vs2, d2, ds2, p2, q2, rfl, rfl, rfl, h2, r2⟩ := trodAll_cons r1
  obtain ⟨rfl, rfl, rfl⟩ := trodAll_nil r2
  obtain rfl : args = #[v0, v1, v2] := by cases args; simp_all
  obtain ⟨rfl, rfl⟩ := trodVars_none hV
  obtain ⟨a0, rfl, rfl, rfl, w0⟩ := open_int Try.underlying3 (hval 0 3 v0 rfl rfl) h0
  obtain ⟨a1, rfl, rfl, rfl, w1⟩ := open_int Try.underlying3 (hval 1 3 v1 rfl rfl) h1
  obtain ⟨a2, rfl, rfl, rfl, w2⟩ := open_int Try.underlying3 (hval 2 3 v2 rfl rfl) h2
  clear hA0 hval0
  simp only [List.append_nil] at hW'
  refine (walk a0 a1 a2 w0 w1 w2 W).mono fun e W' ⟨he, hg⟩ => ?_
  subst he
  exact ⟨_, rfl, _, _, _, [], _, [], hW', trodAll_mk1 (shut_bool Try.underlying4 _), (trodAll_cons_mk (shut_int Try.underlying3 w0) (trodAll_cons_mk (shut_int Try.underlying3 w1) (trodAll_cons_mk (shut_int Try.underlying3 w2) trodAll_mk0))), rfl, hg.frame _, fun h => by cases h⟩

theorem over : Rows.placeMatchesRow.holds Try.pinned (OpenSpec.ofChange Rows.placeMatchesSpec) :=
  OpenClaim.holds_of_wide 7 Try.f7 rfl rfl rfl rfl rfl rfl rfl ⟨rfl, rfl, rfl, rfl, rfl⟩ rfl rfl rfl rfl rfl (by kernel_rfl) Try.func7 (by kernel_rfl)
    (of_decide_eq_true (by kernel_rfl)) (by unfold Func.isWrapper; first | (rw [if_pos (by decide +kernel)]; kernel_rfl) | (rw [if_neg (by decide +kernel)]; exact ⟨rfl, rfl⟩))
    (fun os started H enc _ => lifted os started H enc)

/-- The statement. -/
theorem proved : Rows.PlaceMatchesSaid :=
  over
#print axioms proved
end Go.Proofs.Ytmackljhomameaa.placeMatches
