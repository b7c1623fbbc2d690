/- PlaceRounds: four steps (two for chroma) lead back, one of them leaves the macroblock; the order of steps does not matter. -/
import Derived.Test.YtmackljhomameaaRows
import Derived.WalkKit
import Derived.ProofKit
import Derived.OpenShut
import Derived.Below
import Derived.Test.YtmackljhomameaaRound
import Derived.ShutString
namespace Go.Proofs.Ytmackljhomameaa.placeRounds
open Go.ChangeShapes Go.WideShapes Go.ChangeAt Go.RowKit
open Go.ChangeMaps (open_string shut_string)
set_option linter.unusedVariables false

theorem own : ownKnob Try.prog.godebug = none := by kernel_rfl

/-! ### The walk -/
theorem brought (a n : Int) (hn : 0 < n) : 0 ≤ (a.tmod n + n).tmod n ∧ (a.tmod n + n).tmod n < n ∧ -n ≤ a.tmod n ∧ a.tmod n ≤ n := by
  have h1 := Int.tmod_lt_of_pos a hn
  have h2 : -n < a.tmod n := by
    rcases Int.le_total 0 a with h | h
    · have := Int.tmod_nonneg n h; omega
    · have h3 := Int.tmod_lt_of_pos (-a) hn
      rw [Int.neg_tmod] at h3
      omega
  refine ⟨Int.tmod_nonneg n (by omega), Int.tmod_lt_of_pos _ hn, by omega, by omega⟩

set_option maxHeartbeats 2000000 in
theorem walk (a0 : Int) (w0 : (Lit.int .i64 a0).wf = true) (w : World) :
    Calls Try.prog 5 #[.int .i64 a0] w fun e w' => e = .returned (.bool true) ∧ Below w.heap.size w w' := by
  obtain ⟨p1, p2, p3, p4⟩ := brought a0 16 (by decide)
  obtain ⟨q1, q2, q3, q4⟩ := brought a0 4 (by decide)
  obtain ⟨l, hl⟩ : ∃ l : Nat, (a0.tmod 16 + 16).tmod 16 = l := ⟨((a0.tmod 16 + 16).tmod 16).toNat, by omega⟩
  obtain ⟨c, hc⟩ : ∃ c : Nat, (a0.tmod 4 + 4).tmod 4 = c := ⟨((a0.tmod 4 + 4).tmod 4).toNat, by omega⟩
  have HL := Lib.hid (round_left l (by omega))
  have HA := Lib.hid (round_above l (by omega))
  have HC := Lib.hid (round_chleft c (by omega))
  have HD := Lib.hid (round_chabove c (by omega))
  clear p1 p2 q1 q2
  go_enter Try.func5, Try.ntmps5
  go_wp2_with (first
    | (go_at_call 12; have hx := B3; clear hx; refine (HD.out _).mono ?_; rintro e w4 ⟨rfl, b1⟩; have B4 := Lib.hid (B3.out.trans (b1.mono B3.out.size)); clear b1)
    | (go_at_call 12; have hx := B2; clear hx; refine (HC.out _).mono ?_; rintro e w3 ⟨rfl, b1⟩; have B3 := Lib.hid (B2.out.trans (b1.mono B2.out.size)); clear b1)
    | (go_at_call 12; have hx := B1; clear hx; refine (HA.out _).mono ?_; rintro e w2 ⟨rfl, b1⟩; have B2 := Lib.hid (B1.out.trans (b1.mono B1.out.size)); clear b1)
    | (go_at_call 12; refine (HL.out _).mono ?_; rintro e w1 ⟨rfl, b1⟩; have B1 := Lib.hid b1; clear b1)
    | (go_at_call 11; refine (alive_yes _).mono ?_; rintro e w8 ⟨rfl, b1⟩; have B8 := Lib.hid (B4.out.trans (b1.mono B4.out.size)); clear b1))
  go_ret
  exact ⟨rfl, B8.out⟩


/-! ### The row -/
set_option maxRecDepth 100000 in
theorem lifted (os : Os) (started : os.Started) (H : Type) (enc : TypeId × Value → H) :
    ReturnsInHanded {} Try.checked os 5 .any (Rows.placeRoundsSpec.pre6 enc Try.prog Try.f5 Rows.placeRoundsRow.domain false) (Rows.placeRoundsSpec.post enc Try.prog Try.f5 false true false false) := by
  refine returnsInHanded_of_change (C := Try.checked) own started (by kernel_rfl) Try.func5
    (ChangeSpec.witness6 (enc := enc) (C := Try.checked) false ⟨#[], #[.int .i64 0], []⟩ 8 (by kernel_rfl) (by kernel_rfl) (by kernel_rfl) (by kernel_rfl)) ?_
  intro W base args ds gs before hval0 hW hcnd _
  have hval : ∀ (j : Nat) t v, Try.f5.params[j]? = some t → args[j]? = some v → Value.okWide Try.prog W .any base t v := hval0
  have hW' := hW
  obtain ⟨p, q, hA0, hV, rfl, hfz, hnd⟩ := hW
  have hA : DataW.TrodAll enc Try.prog W 0 (fun _ => true) true Try.f5.params.toList args.toList ds p := hA0
  rw [Try.params5] at hA hval
  obtain ⟨v0, vs0, d0, ds0, p0, q0, hargs, rfl, rfl, h0, r0⟩ := trodAll_cons hA
  obtain ⟨rfl, rfl, rfl⟩ := trodAll_nil r0
  obtain rfl : args = #[v0] := by cases args; simp_all
  obtain ⟨rfl, rfl⟩ := trodVars_none hV
  obtain ⟨a0, rfl, rfl, rfl, w0⟩ := open_int Try.underlying3 (hval 0 3 v0 rfl rfl) h0
  clear hA0 hval0
  simp only [List.append_nil] at hW'
  refine (walk a0 w0 W).mono fun e W' ⟨he, hg⟩ => ?_
  subst he
  exact ⟨_, rfl, _, _, _, [], _, [], hW', trodAll_mk1 (shut_bool Try.underlying4 _), (trodAll_cons_mk (shut_int Try.underlying3 w0) trodAll_mk0), rfl, hg.frame _, fun h => by cases h⟩

theorem over : Rows.placeRoundsRow.holds Try.pinned (OpenSpec.ofChange Rows.placeRoundsSpec) :=
  OpenClaim.holds_of_wide 5 Try.f5 rfl rfl rfl rfl rfl rfl rfl ⟨rfl, rfl, rfl, rfl, rfl⟩ rfl rfl rfl rfl rfl (by kernel_rfl) Try.func5 (by kernel_rfl)
    (of_decide_eq_true (by kernel_rfl)) (by unfold Func.isWrapper; first | (rw [if_pos (by decide +kernel)]; kernel_rfl) | (rw [if_neg (by decide +kernel)]; exact ⟨rfl, rfl⟩))
    (fun os started H enc _ => lifted os started H enc)

/-- The statement. -/
theorem proved : Rows.PlaceRoundsSaid :=
  over
#print axioms proved
end Go.Proofs.Ytmackljhomameaa.placeRounds
