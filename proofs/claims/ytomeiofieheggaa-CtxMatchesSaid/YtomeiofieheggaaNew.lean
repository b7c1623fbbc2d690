/- Contracts of ctx.New. -/
import Derived.Test.YtomeiofieheggaaTab
import Derived.RegionTactic
namespace Go.Proofs.Ytomeiofieheggaa
open Go.RowKit
set_option linter.unusedSimpArgs false
set_option linter.unusedVariables false

/-- The first states of a table. -/
def S0 (c q : Int) : Nat → Int × Int := fun i => (pI i c q, bI i c q)
def Sk (c q : Int) (k : Nat) : Nat → Int × Int := fun i => if i < k then S0 c q i else (0, 0)
theorem Sk_succ (c q : Int) (k : Nat) : Sk c q (k + 1) = upd (Sk c q k) k (pI k c q, bI k c q) := by
  funext i
  unfold Sk upd S0
  by_cases h : i = k
  · subst h; simp
  · rw [if_neg h]
    by_cases h2 : i < k
    · simp [h2, show i < k + 1 by omega]
    · simp [h2, show ¬ i < k + 1 by omega]

set_option maxRecDepth 100000 in
set_option maxHeartbeats 4000000 in
theorem new_yes (c q : Int) (c0 : 0 ≤ c) (c1 : c ≤ 3) (q0 : 0 ≤ q) (q1 : q ≤ 51) (w : World) :
    Calls Try.prog 14 #[.int .i64 c, .int .i64 q] w fun e w' => e = .returned (.tuple #[.pointer (some ⟨w.heap.size, 0, none⟩), .int .i64 0]) ∧ Tab w' w.heap.size (S0 c q) ∧ Below w.heap.size w w' := by
  have hz := zero57
  have hT := Tab.zero (Box.new w 57 zs)
  have HE := Lib.hid (show ∀ k : Nat, k < 286 → eI k c q = 0 from fun k hk => by unfold eI; rw [if_pos (by unfold inI; omega)])
  generalize zs = Z at *
  have HT := Lib.hid hT
  clear hT
  go_enter Try.func14, Try.ntmps14
  go_wp2_with (fail)
  clear hz
  go_loopw [12] (fun v wr => ∃ k : Nat, k ≤ 286 ∧ v = .int .i64 k ∧ Tab wr w.heap.size (Sk c q k) ∧ Below w.heap.size w wr) (fun v _ => 286 - (intOf v).toNat)
  case atStart => exact ⟨0, by omega, rfl, HT.out.ext (fun i _ => by simp [Sk]), (Below.refl _ _).alloc (Nat.le_refl _) _⟩
  case round =>
    obtain ⟨k, hk, rfl, hT, hB⟩ := hrel
    by_cases hlt : k < 286
    · have HI := Lib.hid (init_any k c q wr)
      rw [HE.out k hlt] at HI
      have T0 := Lib.hid hT
      have B0 := Lib.hid hB
      have HS := Lib.hid (Sk_succ c q k)
      generalize pI k c q = x at *
      generalize bI k c q = y at *
      have hg := hT.lt
      clear hT hB
      have hk' : (k : Int) < 286 := by omega
      go_wp2_with (go_at_call 10; refine HI.out.mono ?_; rintro e w1 ⟨rfl, b1⟩; have T1 := T0.out.below b1 hg; obtain ⟨d0, d1, d2, d3⟩ := T1.cells k hlt; have hg1 := T1.lt; have T1' := Lib.hid T1; have B1 := Lib.hid (B0.out.trans (b1.mono B0.out.size)); clear b1 T1)
      go_region
      go_wp2_with (fail)
      go_roundw
      case rel => exact ⟨k + 1, by omega, by go_num, by rw [HS.out]; exact ((T1'.out.set k hlt x y).alloc _).drewN 1, ((((B1.out.setCell (Nat.le_refl _) _).setCell (Nat.le_refl _) _).alloc (by have := T1'.out.lt; simp; omega) _).drewN 1)⟩
      case measure => simp [intOf]; omega
    · obtain rfl : k = 286 := by omega
      go_wp2_with (fail)
      go_ret2
      exact ⟨rfl, hT.ext (fun i hi => by simp [Sk, hi]), hB⟩

end Go.Proofs.Ytomeiofieheggaa
