/- PlaceInverse: Block inverts At; all other numbers are refused, by all functions. -/
import Derived.Test.YtmackljhomameaaRows
import Derived.WalkKit
import Derived.ProofKit
import Derived.OpenShut
import Derived.Below
import Derived.Test.YtmackljhomameaaInv
import Derived.ShutString
namespace Go.Proofs.Ytmackljhomameaa.placeInverse
open Go.ChangeShapes Go.WideShapes Go.ChangeAt Go.RowKit
open Go.ChangeMaps (open_string shut_string)
set_option linter.unusedVariables false

theorem own : ownKnob Try.prog.godebug = none := by kernel_rfl

/-! ### The walk -/
theorem at2_back : ∀ k, k < 16 → bV (gx 16 k) (gy 16 k) = k ∧ bE (gx 16 k) (gy 16 k) = 0 := by decide
theorem bV00 : bV 0 0 = 0 ∧ bE 0 0 = 0 := by decide
theorem mvE_no {n : Nat} {k : Int} (h : ¬ (0 ≤ k ∧ k < (n : Nat))) : mvE n k = 3 := by unfold mvE; rw [if_neg h]
theorem mvE_yes {n : Nat} {k : Int} (h : 0 ≤ k ∧ k < (n : Nat)) : mvE n k = 0 := by unfold mvE; rw [if_pos h]
theorem aE_no {k : Int} (h : ¬ (0 ≤ k ∧ k ≤ 15)) : aX k = 0 ∧ aY k = 0 ∧ aE k = 3 := by unfold aX aY aE; rw [if_neg h, if_neg h, if_neg h]; exact ⟨rfl, rfl, rfl⟩
theorem bE_no {x y : Int} (h : ¬ (0 ≤ x ∧ x ≤ 3 ∧ 0 ≤ y ∧ y ≤ 3)) : bV x y = 0 ∧ bE x y = 3 := by unfold bV bE; rw [if_neg h, if_neg h]; exact ⟨rfl, rfl⟩
/-- What Block returns at a place is there. -/
theorem bE_yes {x y : Int} (h : 0 ≤ x ∧ x ≤ 3 ∧ 0 ≤ y ∧ y ≤ 3) : bE x y = 0 ∧ aX (bV x y) = x ∧ aY (bV x y) = y ∧ aE (bV x y) = 0 := by
  obtain ⟨a, rfl⟩ : ∃ a : Nat, x = a := ⟨x.toNat, by omega⟩
  obtain ⟨b, rfl⟩ : ∃ b : Nat, y = b := ⟨y.toNat, by omega⟩
  obtain ⟨t0, t1, t2⟩ := at2_ok a (by omega) b (by omega)
  have hb : bV (a : Int) (b : Int) = (at2 16 a b : Nat) := by unfold bV; rw [if_pos h]
  obtain ⟨u, v⟩ := ax_of (at2 16 a b) t0
  rw [hb]
  refine ⟨by unfold bE; rw [if_pos h], u.trans t1, v.trans t2, ?_⟩
  unfold aE
  rw [if_pos (by omega)]

theorem walk (a0 : Int) (a1 : Int) (a2 : Int) (w0 : (Lit.int .i64 a0).wf = true) (w1 : (Lit.int .i64 a1).wf = true) (w2 : (Lit.int .i64 a2).wf = true) (w : World) :
    Calls Try.prog 8 #[.int .i64 a0, .int .i64 a1, .int .i64 a2] w fun e w' => e = .returned (.bool true) ∧ Below w.heap.size w w' := by
  have H1 := Lib.hid (at_any a0)
  have H3 := Lib.hid (block_any a1 a2)
  have H5 := Lib.hid (left_any a0)
  have H6 := Lib.hid (above_any a0)
  have H7 := Lib.hid (chleft_any a0)
  have H8 := Lib.hid (chabove_any a0)
  by_cases hk : 0 ≤ a0
  · by_cases hk' : a0 < 16
    · obtain ⟨m, rfl⟩ : ∃ m : Nat, a0 = m := ⟨a0.toNat, by omega⟩
      obtain ⟨u, v⟩ := ax_of m (by omega)
      have he : aE (m : Int) = 0 := by unfold aE; rw [if_pos (by omega)]
      obtain ⟨q1, q2⟩ := at2_back m (by omega)
      have H2 := Lib.hid (block_any (gx 16 m) (gy 16 m))
      rw [q1, q2] at H2
      rw [u, v, he] at H1
      have e5 : mvE 16 (m : Int) = 0 := mvE_yes (by omega)
      rw [e5] at H5 H6
      clear q1 q2 u v he e5
      by_cases hk4 : (m : Int) < 4
      · have e7 : mvE 4 (m : Int) = 0 := mvE_yes (by omega)
        rw [e7] at H7 H8
        clear e7
        by_cases hx : 0 ≤ a1
        · by_cases hx' : a1 < 4
          · by_cases hy : 0 ≤ a2
            · by_cases hy' : a2 < 4
              · obtain ⟨q1, q2, q3, q4⟩ := bE_yes (x := a1) (y := a2) (by omega)
                have H4 := Lib.hid (at_any (bV a1 a2))
                rw [q2, q3, q4] at H4
                rw [q1] at H3
                exact invSmallIn (m : Int) a1 a2 _ _ _ _ _ _ _ _ _ _ _ (by omega) (by omega) hk4 (by omega) (by omega) (by omega) (by omega) H1 H2 H3 H4 H5 H6 H7 H8 w
              · obtain ⟨q1, q2⟩ := bE_no (x := a1) (y := a2) (by omega)
                rw [q1, q2] at H3
                exact invSmallD (m : Int) a1 a2 _ _ _ _ _ _ _ _ _ _ (by omega) (by omega) hk4 (by omega) (by omega) (by omega) hy' H1 H2 H3 H5 H6 H7 H8 w
            · obtain ⟨q1, q2⟩ := bE_no (x := a1) (y := a2) (by omega)
              rw [q1, q2] at H3
              exact invSmallC (m : Int) a1 a2 _ _ _ _ _ _ _ _ _ _ (by omega) (by omega) hk4 (by omega) (by omega) hy H1 H2 H3 H5 H6 H7 H8 w
          · obtain ⟨q1, q2⟩ := bE_no (x := a1) (y := a2) (by omega)
            rw [q1, q2] at H3
            exact invSmallB (m : Int) a1 a2 _ _ _ _ _ _ _ _ _ _ (by omega) (by omega) hk4 (by omega) hx' H1 H2 H3 H5 H6 H7 H8 w
        · obtain ⟨q1, q2⟩ := bE_no (x := a1) (y := a2) (by omega)
          rw [q1, q2] at H3
          exact invSmallA (m : Int) a1 a2 _ _ _ _ _ _ _ _ _ _ (by omega) (by omega) hk4 hx H1 H2 H3 H5 H6 H7 H8 w
      · have e7 : mvE 4 (m : Int) = 3 := mvE_no (by omega)
        rw [e7] at H7 H8
        clear e7
        by_cases hx : 0 ≤ a1
        · by_cases hx' : a1 < 4
          · by_cases hy : 0 ≤ a2
            · by_cases hy' : a2 < 4
              · obtain ⟨q1, q2, q3, q4⟩ := bE_yes (x := a1) (y := a2) (by omega)
                have H4 := Lib.hid (at_any (bV a1 a2))
                rw [q2, q3, q4] at H4
                rw [q1] at H3
                exact invMidIn (m : Int) a1 a2 _ _ _ _ _ _ _ _ _ _ _ (by omega) (by omega) hk4 (by omega) (by omega) (by omega) (by omega) H1 H2 H3 H4 H5 H6 H7 H8 w
              · obtain ⟨q1, q2⟩ := bE_no (x := a1) (y := a2) (by omega)
                rw [q1, q2] at H3
                exact invMidD (m : Int) a1 a2 _ _ _ _ _ _ _ _ _ _ (by omega) (by omega) hk4 (by omega) (by omega) (by omega) hy' H1 H2 H3 H5 H6 H7 H8 w
            · obtain ⟨q1, q2⟩ := bE_no (x := a1) (y := a2) (by omega)
              rw [q1, q2] at H3
              exact invMidC (m : Int) a1 a2 _ _ _ _ _ _ _ _ _ _ (by omega) (by omega) hk4 (by omega) (by omega) hy H1 H2 H3 H5 H6 H7 H8 w
          · obtain ⟨q1, q2⟩ := bE_no (x := a1) (y := a2) (by omega)
            rw [q1, q2] at H3
            exact invMidB (m : Int) a1 a2 _ _ _ _ _ _ _ _ _ _ (by omega) (by omega) hk4 (by omega) hx' H1 H2 H3 H5 H6 H7 H8 w
        · obtain ⟨q1, q2⟩ := bE_no (x := a1) (y := a2) (by omega)
          rw [q1, q2] at H3
          exact invMidA (m : Int) a1 a2 _ _ _ _ _ _ _ _ _ _ (by omega) (by omega) hk4 hx H1 H2 H3 H5 H6 H7 H8 w
    · have H2 := Lib.hid (block_any 0 0)
      rw [bV00.1, bV00.2] at H2
      obtain ⟨u, v, he⟩ := aE_no (k := a0) (by omega)
      rw [u, v, he] at H1
      have e5 : mvE 16 a0 = 3 := mvE_no (by omega)
      rw [e5] at H5 H6
      have e7 : mvE 4 a0 = 3 := mvE_no (by omega)
      rw [e7] at H7 H8
      clear u v he e5 e7
      by_cases hx : 0 ≤ a1
      · by_cases hx' : a1 < 4
        · by_cases hy : 0 ≤ a2
          · by_cases hy' : a2 < 4
            · obtain ⟨q1, q2, q3, q4⟩ := bE_yes (x := a1) (y := a2) (by omega)
              have H4 := Lib.hid (at_any (bV a1 a2))
              rw [q2, q3, q4] at H4
              rw [q1] at H3
              exact invBigIn a0 a1 a2 _ _ _ _ _ _ _ _ _ (by omega) hk' (by omega) (by omega) (by omega) (by omega) H1 H2 H3 H4 H5 H6 H7 H8 w
            · obtain ⟨q1, q2⟩ := bE_no (x := a1) (y := a2) (by omega)
              rw [q1, q2] at H3
              exact invBigD a0 a1 a2 _ _ _ _ _ _ _ _ (by omega) hk' (by omega) (by omega) (by omega) hy' H1 H2 H3 H5 H6 H7 H8 w
          · obtain ⟨q1, q2⟩ := bE_no (x := a1) (y := a2) (by omega)
            rw [q1, q2] at H3
            exact invBigC a0 a1 a2 _ _ _ _ _ _ _ _ (by omega) hk' (by omega) (by omega) hy H1 H2 H3 H5 H6 H7 H8 w
        · obtain ⟨q1, q2⟩ := bE_no (x := a1) (y := a2) (by omega)
          rw [q1, q2] at H3
          exact invBigB a0 a1 a2 _ _ _ _ _ _ _ _ (by omega) hk' (by omega) hx' H1 H2 H3 H5 H6 H7 H8 w
      · obtain ⟨q1, q2⟩ := bE_no (x := a1) (y := a2) (by omega)
        rw [q1, q2] at H3
        exact invBigA a0 a1 a2 _ _ _ _ _ _ _ _ (by omega) hk' hx H1 H2 H3 H5 H6 H7 H8 w
  · have H2 := Lib.hid (block_any 0 0)
    rw [bV00.1, bV00.2] at H2
    obtain ⟨u, v, he⟩ := aE_no (k := a0) (by omega)
    rw [u, v, he] at H1
    have e5 : mvE 16 a0 = 3 := mvE_no (by omega)
    rw [e5] at H5 H6
    have e7 : mvE 4 a0 = 3 := mvE_no (by omega)
    rw [e7] at H7 H8
    clear u v he e5 e7
    by_cases hx : 0 ≤ a1
    · by_cases hx' : a1 < 4
      · by_cases hy : 0 ≤ a2
        · by_cases hy' : a2 < 4
          · obtain ⟨q1, q2, q3, q4⟩ := bE_yes (x := a1) (y := a2) (by omega)
            have H4 := Lib.hid (at_any (bV a1 a2))
            rw [q2, q3, q4] at H4
            rw [q1] at H3
            exact invNegIn a0 a1 a2 _ _ _ _ _ _ _ _ _ hk (by omega) (by omega) (by omega) (by omega) H1 H2 H3 H4 H5 H6 H7 H8 w
          · obtain ⟨q1, q2⟩ := bE_no (x := a1) (y := a2) (by omega)
            rw [q1, q2] at H3
            exact invNegD a0 a1 a2 _ _ _ _ _ _ _ _ hk (by omega) (by omega) (by omega) hy' H1 H2 H3 H5 H6 H7 H8 w
        · obtain ⟨q1, q2⟩ := bE_no (x := a1) (y := a2) (by omega)
          rw [q1, q2] at H3
          exact invNegC a0 a1 a2 _ _ _ _ _ _ _ _ hk (by omega) (by omega) hy H1 H2 H3 H5 H6 H7 H8 w
      · obtain ⟨q1, q2⟩ := bE_no (x := a1) (y := a2) (by omega)
        rw [q1, q2] at H3
        exact invNegB a0 a1 a2 _ _ _ _ _ _ _ _ hk (by omega) hx' H1 H2 H3 H5 H6 H7 H8 w
    · obtain ⟨q1, q2⟩ := bE_no (x := a1) (y := a2) (by omega)
      rw [q1, q2] at H3
      exact invNegA a0 a1 a2 _ _ _ _ _ _ _ _ hk hx H1 H2 H3 H5 H6 H7 H8 w


/-! ### The row -/
set_option maxRecDepth 100000 in
theorem lifted (os : Os) (started : os.Started) (H : Type) (enc : TypeId × Value → H) :
    ReturnsInHanded {} Try.checked os 8 .any (Rows.placeInverseSpec.pre6 enc Try.prog Try.f8 Rows.placeInverseRow.domain false) (Rows.placeInverseSpec.post enc Try.prog Try.f8 false true false false) := by
  refine returnsInHanded_of_change (C := Try.checked) own started (by kernel_rfl) Try.func8
    (ChangeSpec.witness6 (enc := enc) (C := Try.checked) false ⟨#[], #[.int .i64 0, .int .i64 0, .int .i64 0], []⟩ 8 (by kernel_rfl) (by kernel_rfl) (by kernel_rfl) (by kernel_rfl)) ?_
  intro W base args ds gs before hval0 hW hcnd _
  have hval : ∀ (j : Nat) t v, Try.f8.params[j]? = some t → args[j]? = some v → Value.okWide Try.prog W .any base t v := hval0
  have hW' := hW
  obtain ⟨p, q, hA0, hV, rfl, hfz, hnd⟩ := hW
  have hA : DataW.TrodAll enc Try.prog W 0 (fun _ => true) true Try.f8.params.toList args.toList ds p := hA0
  rw [Try.params8] at hA hval
  obtain ⟨v0, vs0, d0, ds0, p0, q0, hargs, rfl, rfl, h0, r0⟩ := trodAll_cons hA
  obtain ⟨v1, vs1, d1, ds1, p1, q1, rfl, rfl, rfl, h1, r1⟩ := trodAll_cons r0
  obtain ⟨v2, vs2, d2, ds2, p2, q2, rfl, rfl, rfl, h2, r2⟩ := trodAll_cons r1
  obtain ⟨rfl, rfl, rfl⟩ := trodAll_nil r2
  obtain rfl : args = #[v0, v1, v2] := by cases args; simp_all
  obtain ⟨rfl, rfl⟩ := trodVars_none hV
  obtain ⟨a0, rfl, rfl, rfl, w0⟩ := open_int Try.underlying3 (hval 0 3 v0 rfl rfl) h0
  obtain ⟨a1, rfl, rfl, rfl, w1⟩ := open_int Try.underlying3 (hval 1 3 v1 rfl rfl) h1
  obtain ⟨a2, rfl, rfl, rfl, w2⟩ := open_int Try.underlying3 (hval 2 3 v2 rfl rfl) h2
  clear hA0 hval0
  simp only [List.append_nil] at hW'
  refine (walk a0 a1 a2 w0 w1 w2 W).mono fun e W' ⟨he, hg⟩ => ?_
  subst he
  exact ⟨_, rfl, _, _, _, [], _, [], hW', trodAll_mk1 (shut_bool Try.underlying4 _), (trodAll_cons_mk (shut_int Try.underlying3 w0) (trodAll_cons_mk (shut_int Try.underlying3 w1) (trodAll_cons_mk (shut_int Try.underlying3 w2) trodAll_mk0))), rfl, hg.frame _, fun h => by cases h⟩

theorem over : Rows.placeInverseRow.holds Try.pinned (OpenSpec.ofChange Rows.placeInverseSpec) :=
  OpenClaim.holds_of_wide 8 Try.f8 rfl rfl rfl rfl rfl rfl rfl ⟨rfl, rfl, rfl, rfl, rfl⟩ rfl rfl rfl rfl rfl (by kernel_rfl) Try.func8 (by kernel_rfl)
    (of_decide_eq_true (by kernel_rfl)) (by unfold Func.isWrapper; first | (rw [if_pos (by decide +kernel)]; kernel_rfl) | (rw [if_neg (by decide +kernel)]; exact ⟨rfl, rfl⟩))
    (fun os started H enc _ => lifted os started H enc)

/-- The statement. -/
theorem proved : Rows.PlaceInverseSaid :=
  over
#print axioms proved
end Go.Proofs.Ytmackljhomameaa.placeInverse
