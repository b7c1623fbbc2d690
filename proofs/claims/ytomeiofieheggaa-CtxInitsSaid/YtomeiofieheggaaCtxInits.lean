/- CtxInits: Init returns what the reference returns, for the given context and for all contexts; no conditions. -/
import Derived.Test.YtomeiofieheggaaRows
import Derived.WalkKit
import Derived.ProofKit
import Derived.OpenShut
import Derived.Below
import Derived.Test.YtomeiofieheggaaActs
import Derived.Test.YtomeiofieheggaaRInit
import Derived.ShutString
namespace Go.Proofs.Ytomeiofieheggaa.ctxInits
open Go.ChangeShapes Go.WideShapes Go.ChangeAt Go.RowKit
open Go.ChangeMaps (open_string shut_string)
set_option linter.unusedVariables false

theorem own : ownKnob Try.prog.godebug = none := by kernel_rfl

/-! ### The walk -/
theorem two_box {w w1 : World} {cs : Array Value} (t : TypeId) (b : Below (w.alloc (.cells cs t)).heap.size (w.alloc (.cells cs t)) w1) : Box w1 w.heap.size t cs := (Box.new w t cs).below b (by simp)

set_option maxRecDepth 100000 in
set_option maxHeartbeats 4000000 in
theorem walk (a0 : Int) (a1 : Int) (a2 : Int) (w0 : (Lit.int .i64 a0).wf = true) (w1 : (Lit.int .i64 a1).wf = true) (w2 : (Lit.int .i64 a2).wf = true) (w : World) :
    Calls Try.prog 3 #[.int .i64 a0, .int .i64 a1, .int .i64 a2] w fun e w' => e = .returned (.bool true) ∧ Below w.heap.size w w' := by
  clear w0 w1 w2
  have H10 := Lib.hid (fun i w => init_any i a1 a2 w)
  have H11 := Lib.hid (fun i w => rinit_any i a1 a2 w)
  have HA := Lib.hid (H10.out a0)
  have HB := Lib.hid (H11.out a0)
  generalize pI a0 a1 a2 = x at *
  generalize bI a0 a1 a2 = y at *
  generalize eI a0 a1 a2 = z at *
  go_enter Try.func3, Try.ntmps3
  go_wp2_with (fail)
  refine (HA.out _).mono ?_
  rintro e w1 ⟨rfl, b1⟩
  have B1 := Lib.hid b1
  have s1 := b1.size
  clear b1
  go_wp2_with (fail)
  refine (HB.out _).mono ?_
  rintro e w2 ⟨rfl, b2⟩
  have X2 := two_box 23 b2
  have s2 := X2.lt
  have x0 : w2.cell? ⟨w1.heap.size, 0, none⟩ = some (.int .u8 x) := by simpa using X2.cell 0
  have x1 : w2.cell? ⟨w1.heap.size, 1, none⟩ = some (.int .u8 y) := by simpa using X2.cell 1
  have B2 := Lib.hid ((B1.out.alloc B1.out.size _).trans (b2.mono (by simp; omega)))
  clear b2 X2
  go_wp2_with (fail)
  go_loopw [11] (fun v wr => ∃ k : Nat, k ≤ 288 ∧ v = .int .i64 ((k : Int) - 1) ∧ Below w.heap.size w wr) (fun v _ => 288 - (intOf v + 1).toNat)
  case atStart => exact ⟨0, by omega, rfl, B2.out.alloc B2.out.size _⟩
  case round =>
    obtain ⟨k, hk, rfl, hB⟩ := hrel
    have B3 := Lib.hid hB
    clear hB x0 x1
    by_cases hlt : (k : Int) - 1 ≤ 286
    · have HI := Lib.hid (H10.out ((k : Int) - 1))
      have HJ := Lib.hid (H11.out ((k : Int) - 1))
      generalize pI ((k : Int) - 1) a1 a2 = x at *
      generalize bI ((k : Int) - 1) a1 a2 = y at *
      generalize eI ((k : Int) - 1) a1 a2 = z at *
      go_wp2_with (fail)
      refine (HI.out _).mono ?_
      rintro e w3 ⟨rfl, b3⟩
      have B4 := Lib.hid (B3.out.trans (b3.mono B3.out.size))
      clear b3
      go_wp2_with (fail)
      refine (HJ.out _).mono ?_
      rintro e w4 ⟨rfl, b4⟩
      have X2 := two_box 23 b4
      have s4 := X2.lt
      have x0 : w4.cell? ⟨w3.heap.size, 0, none⟩ = some (.int .u8 x) := by simpa using X2.cell 0
      have x1 : w4.cell? ⟨w3.heap.size, 1, none⟩ = some (.int .u8 y) := by simpa using X2.cell 1
      have B5 := Lib.hid ((B4.out.alloc B4.out.size _).trans (b4.mono (by have := B4.out.size; simp; omega)))
      clear b4 X2
      go_wp2_with (fail)
      go_roundw
      case rel => exact ⟨k + 1, by omega, by go_num, B5.out.alloc B5.out.size _⟩
      case measure => simp [intOf]; omega
    · go_wp2_with (fail)
      refine (alive_yes _).mono ?_
      rintro e w5 ⟨rfl, b5⟩
      have B6 := Lib.hid (B3.out.trans (b5.mono B3.out.size))
      clear b5
      go_wp2_with (fail)
      go_ret
      exact ⟨rfl, B6.out⟩


/-! ### The row -/
set_option maxRecDepth 100000 in
theorem lifted (os : Os) (started : os.Started) (H : Type) (enc : TypeId × Value → H) :
    ReturnsInHanded {} Try.checked os 3 .any (Rows.ctxInitsSpec.pre6 enc Try.prog Try.f3 Rows.ctxInitsRow.domain false) (Rows.ctxInitsSpec.post enc Try.prog Try.f3 false true false false) := by
  refine returnsInHanded_of_change (C := Try.checked) own started (by kernel_rfl) Try.func3
    (ChangeSpec.witness6 (enc := enc) (C := Try.checked) false ⟨#[], #[.int .i64 0, .int .i64 0, .int .i64 0], []⟩ 8 (by kernel_rfl) (by kernel_rfl) (by kernel_rfl) (by kernel_rfl)) ?_
  intro W base args ds gs before hval0 hW hcnd _
  have hval : ∀ (j : Nat) t v, Try.f3.params[j]? = some t → args[j]? = some v → Value.okWide Try.prog W .any base t v := hval0
  have hW' := hW
  obtain ⟨p, q, hA0, hV, rfl, hfz, hnd⟩ := hW
  have hA : DataW.TrodAll enc Try.prog W 0 (fun _ => true) true Try.f3.params.toList args.toList ds p := hA0
  rw [Try.params3] at hA hval
  obtain ⟨v0, vs0, d0, ds0, p0, q0, hargs, rfl, rfl, h0, r0⟩ := trodAll_cons hA
  obtain ⟨v1, vs1, d1, ds1, p1, q1, rfl, rfl, rfl, h1, r1⟩ := trodAll_cons r0
  obtain ⟨v2, vs2, d2, ds2, p2, q2, rfl, rfl, rfl, h2, r2⟩ := trodAll_cons r1
  obtain ⟨rfl, rfl, rfl⟩ := trodAll_nil r2
  obtain rfl : args = #[v0, v1, v2] := by cases args; simp_all
  obtain ⟨rfl, rfl⟩ := trodVars_none hV
  obtain ⟨a0, rfl, rfl, rfl, w0⟩ := open_int Try.underlying3 (hval 0 3 v0 rfl rfl) h0
  obtain ⟨a1, rfl, rfl, rfl, w1⟩ := open_int Try.underlying3 (hval 1 3 v1 rfl rfl) h1
  obtain ⟨a2, rfl, rfl, rfl, w2⟩ := open_int Try.underlying3 (hval 2 3 v2 rfl rfl) h2
  clear hA0 hval0
  simp only [List.append_nil] at hW'
  refine (walk a0 a1 a2 w0 w1 w2 W).mono fun e W' ⟨he, hg⟩ => ?_
  subst he
  exact ⟨_, rfl, _, _, _, [], _, [], hW', trodAll_mk1 (shut_bool Try.underlying4 _), (trodAll_cons_mk (shut_int Try.underlying3 w0) (trodAll_cons_mk (shut_int Try.underlying3 w1) (trodAll_cons_mk (shut_int Try.underlying3 w2) trodAll_mk0))), rfl, hg.frame _, fun h => by cases h⟩

theorem over : Rows.ctxInitsRow.holds Try.pinned (OpenSpec.ofChange Rows.ctxInitsSpec) :=
  OpenClaim.holds_of_wide 3 Try.f3 rfl rfl rfl rfl rfl rfl rfl ⟨rfl, rfl, rfl, rfl, rfl⟩ rfl rfl rfl rfl rfl (by kernel_rfl) Try.func3 (by kernel_rfl)
    (of_decide_eq_true (by kernel_rfl)) (by unfold Func.isWrapper; first | (rw [if_pos (by decide +kernel)]; kernel_rfl) | (rw [if_neg (by decide +kernel)]; exact ⟨rfl, rfl⟩))
    (fun os started H enc _ => lifted os started H enc)

/-- The statement. -/
theorem proved : Rows.CtxInitsSaid :=
  over
#print axioms proved
end Go.Proofs.Ytomeiofieheggaa.ctxInits
