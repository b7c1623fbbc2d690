/- The map of PlaceGrid: what it holds after n addresses. -/
import Derived.Test.YtmackljhomameaaProg
import Derived.WalkKit
import Derived.Maps.Own
import Derived.Maps.OwnOps
import Derived.Maps.OwnSet
import Derived.Maps.Views
import Derived.Maps.Keyed
import Derived.DeepKeys4
import Derived.KernelRfl
namespace Go.Proofs.Ytmackljhomameaa
open Go.RowKit Go.Maps

theorem laidOut : laidOutB Try.prog = true := by kernel_rfl
theorem wide28 : (match Try.prog.underlying 28 with | some (.array _ _) | some (.struct _) => true | _ => false) = true := by kernel_rfl
theorem law28 : Keyed Try.prog 28 := Keyed.of_law (deep_law_laid laidOut (m := 40) (by decide) (of_decide_eq_true (by kernel_rfl)) (by kernel_rfl) wide28)
theorem zeroE (w : World) : (zeroValue 3).run Try.prog w = .ok (.int .i64 0) w := by kernel_rfl
theorem cells28 : Try.prog.cellsOf 28 = 2 := by kernel_rfl
theorem formed28 (c0 c1 : Value) : (Value.agg #[c0, c1]).formed Try.prog 28 = true := by simp [Value.formed, Try.underlying28, cells28]

/-- A key. -/
def kv (x y : Int) : Value := .agg #[.int .i64 x, .int .i64 y]
/-- What a key reads as. -/
def kl (x y : Int) : Lit := .string (keyBytes [.int .i64 x, .int .i64 y])

theorem key28 (x y : Int) (hx : (Lit.int .i64 x).wf = true) (hy : (Lit.int .i64 y).wf = true) : keyOf Try.prog 28 (kv x y) = some (kl x y) := by
  have hk : Try.prog.keyType 28 = true := by kernel_rfl
  unfold keyOf kv
  simp only [Try.underlying28, hk, formed28, Bool.and_self, if_true]
  obtain ⟨m, hm⟩ : ∃ m, Try.prog.types.size = m + 1 := ⟨Try.prog.types.size - 1, by have : 0 < Try.prog.types.size := of_decide_eq_true (by kernel_rfl); omega⟩
  have h3 : Try.prog.cellsOf 3 = 1 := by kernel_rfl
  rw [hm]
  simp [Program.keyLits, Try.underlying28, Try.underlying3, cells28, h3, hx, hy, Value.cells, List.range_succ, kl]

theorem kl_inj {x y x' y' : Int} (hx : (Lit.int .i64 x).wf = true) (hy : (Lit.int .i64 y).wf = true) (hx' : (Lit.int .i64 x').wf = true) (hy' : (Lit.int .i64 y').wf = true) (h : kl x y = kl x' y') : x = x' ∧ y = y' := by
  have h1 := key28 x y hx hy
  have h2 := key28 x' y' hx' hy'
  rw [h] at h1
  have := keyOf_inj_deep (P := Try.prog) (m := 40) (k := 28) (by kernel_rfl) wide28 h1 h2
  simpa [kv] using this

def InR (f w : Int) (n : Nat) (x y : Int) : Prop := 0 ≤ x ∧ x < w ∧ f ≤ y * w + x ∧ y * w + x < f + n
def wf64 (x : Int) : Prop := (Lit.int .i64 x).wf = true
/-- The map after n addresses. -/
def GInv {H : Type} (f w : Int) (n : Nat) (D : DataW H) : Prop :=
  IsMap D ∧ ∀ x y, wf64 x → wf64 y → (InR f w n x y → has D (kl x y) = true ∧ ∀ z, D.atKey (kl x y) z = .lit (.int .i64 (y * w + x))) ∧ (¬ InR f w n x y → has D (kl x y) = false)

theorem ginv0 {H : Type} (f w : Int) : GInv (H := H) f w 0 (.map []) :=
  ⟨isMap_empty, fun x y _ _ => ⟨fun h => by unfold InR at h; omega, fun _ => rfl⟩⟩

theorem ginv_step {H : Type} {f w : Int} {n : Nat} {D : DataW H} (h : GInv f w n D) (hw : 0 < w) (hx : wf64 ((f + n) % w)) (hy : wf64 ((f + n) / w)) :
    GInv f w (n + 1) (D.put (kl ((f + n) % w) ((f + n) / w)) (.lit (.int .i64 (f + n)))) := by
  obtain ⟨hm, hI⟩ := h
  have hk : WideAt.IsKeyLit (kl ((f + n) % w) ((f + n) / w)) := trivial
  refine ⟨?_, fun x y wx wy => ?_⟩
  · obtain ⟨es, rfl⟩ := hm
    exact ⟨_, rfl⟩
  have e0 := Int.emod_add_mul_ediv (f + n) w
  have e1 := Int.emod_nonneg (f + n) (b := w) (by omega)
  have e2 := Int.emod_lt_of_pos (f + n) hw
  have e3 : (f + n) / w * w + (f + n) % w = f + n := by rw [Int.mul_comm]; omega
  by_cases he : x = (f + n) % w ∧ y = (f + n) / w
  · obtain ⟨rfl, rfl⟩ := he
    refine ⟨fun _ => ⟨has_put_same hm hk _, fun z => ?_⟩, fun hn => ?_⟩
    · rw [atKey_put_same hm hk, e3]
    · exact absurd (show InR _ _ _ _ _ from ⟨e1, e2, by rw [e3]; omega, by rw [e3]; omega⟩) hn
  · have hne : kl x y ≠ kl ((f + n) % w) ((f + n) / w) := fun hh => he (kl_inj wx wy hx hy hh)
    have hiff : InR f w (n + 1) x y ↔ InR f w n x y := by
      unfold InR
      constructor
      · rintro ⟨a, b, c, d⟩
        refine ⟨a, b, c, ?_⟩
        by_cases hq : y * w + x = f + n
        · exfalso
          apply he
          rw [← hq, Int.add_comm, Int.add_mul_emod_self_right, Int.emod_eq_of_lt a b, Int.add_mul_ediv_right _ _ (by omega), Int.ediv_eq_zero_of_lt a b]
          omega
        · omega
      · rintro ⟨a, b, c, d⟩
        exact ⟨a, b, c, by omega⟩
    rw [hiff, has_put_other hne]
    obtain ⟨p, q⟩ := hI x y wx wy
    exact ⟨fun hr => ⟨(p hr).1, fun z => by rw [atKey_put_other hne]; exact (p hr).2 z⟩, q⟩

theorem wf64_of {x : Int} (h0 : -9223372036854775808 ≤ x) (h1 : x ≤ 9223372036854775807) : wf64 x := by
  exact WalkArith.wf_i64 ⟨h0, h1⟩

/-- A look-up that finds. -/
theorem look_in {H : Type} {wr : World} {b n : Nat} {D : DataW H} {f w : Int} (hown : wr.ownsMap Try.prog 28 (plainElem Try.prog 3) b n D) (hg : GInv f w n D) {x y : Int} (wx : wf64 x) (wy : wf64 y) (hr : InR f w n x y) :
    (Instr.lookup 27 (.map (some b)) (.agg #[.int .i64 x, .int .i64 y]) true).run Try.prog wr = .ok (.tuple #[.int .i64 (y * w + x), .bool true]) wr := by
  obtain ⟨v, ps, hrun, hv⟩ := hown.look_ok law28 Try.underlying27 (zeroE _) (plainElem_int (H := H) Try.underlying3 (by decide)) (key28 x y wx wy)
  obtain ⟨c, rfl, hc, _⟩ := plainElem_int_inv Try.underlying3 hv
  obtain ⟨h1, h2⟩ := (hg.2 x y wx wy).1 hr
  rw [h2] at hc
  rw [h1] at hrun
  simp at hc
  rw [hc.1]
  exact hrun

theorem look_out {H : Type} {wr : World} {b n : Nat} {D : DataW H} {f w : Int} (hown : wr.ownsMap Try.prog 28 (plainElem Try.prog 3) b n D) (hg : GInv f w n D) {x y : Int} (wx : wf64 x) (wy : wf64 y) (hr : ¬ InR f w n x y) :
    ∃ c, (Instr.lookup 27 (.map (some b)) (.agg #[.int .i64 x, .int .i64 y]) true).run Try.prog wr = .ok (.tuple #[.int .i64 c, .bool false]) wr := by
  obtain ⟨v, ps, hrun, hv⟩ := hown.look_ok law28 Try.underlying27 (zeroE _) (plainElem_int (H := H) Try.underlying3 (by decide)) (key28 x y wx wy)
  obtain ⟨c, rfl, hc, _⟩ := plainElem_int_inv Try.underlying3 hv
  rw [(hg.2 x y wx wy).2 hr] at hrun
  exact ⟨c, hrun⟩

end Go.Proofs.Ytmackljhomameaa
