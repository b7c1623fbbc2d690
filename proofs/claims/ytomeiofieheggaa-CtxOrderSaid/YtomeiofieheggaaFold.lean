/- Contract of the law's own function fold. -/
import Derived.Test.YtomeiofieheggaaSees
import Derived.Deep.RegionHeld3
namespace Go.Proofs.Ytomeiofieheggaa
open Go.RowKit
set_option linter.unusedSimpArgs false
set_option linter.unusedVariables false

theorem fo_step (c q : Int) (I B : Nat → Int) (i k : Nat) (h : I k % 286 = i) : Fo c q I B i (k + 1) = (nxtP (Fo c q I B i k).1 (Fo c q I B i k).2 (B k % 2), nxtM (Fo c q I B i k).1 (Fo c q I B i k).2 (B k % 2)) := by
  conv => lhs; unfold Fo
  rw [if_pos h]
theorem fo_skip (c q : Int) (I B : Nat → Int) (i k : Nat) (h : ¬ I k % 286 = i) : Fo c q I B i (k + 1) = Fo c q I B i k := by
  conv => lhs; unfold Fo
  rw [if_neg h]

set_option maxRecDepth 100000 in
set_option maxHeartbeats 8000000 in
theorem fold_any (i : Nat) (hi : i < 286) (c q : Int) (c0 : 0 ≤ c) (c1 : c ≤ 3) (q0 : 0 ≤ q) (q1 : q ≤ 51) (a : Option Addr) (n cap : Nat) (hn : n ≤ 100) (I B : Nat → Int) (w : World) (hS : Sees w a n I B) :
    Calls Try.prog 17 #[.int .i64 (i : Int), .int .i64 c, .int .i64 q, .slice a n cap] w fun e w' => e = .returned (.agg #[.int .u8 (Fo c q I B i n).1, .int .u8 (Fo c q I B i n).2]) ∧ Below w.heap.size w w' := by
  have HS := Lib.hid hS
  have HI := Lib.hid (fun w => init_any i c q w)
  rw [show eI i c q = 0 from by unfold eI; rw [if_pos (by unfold inI; omega)]] at HI
  have F0 := Lib.hid (show Fo c q I B i 0 = (pI i c q, bI i c q) from rfl)
  have hi' : (i : Int) < 286 := by omega
  clear hS
  generalize pI i c q = p0 at *
  generalize bI i c q = m0 at *
  have XR := Lib.hid (Box.new w 23 #[.int .u8 0, .int .u8 0])
  go_enter Try.func17, Try.ntmps17
  go_wp2_with (fail)
  refine (HI.out _).mono ?_
  rintro e w1 ⟨rfl, b1⟩
  have XR1 := Lib.hid (XR.out.below b1 (by simp))
  have B1 := Lib.hid (((Below.refl _ w).alloc (Nat.le_refl _) _).trans (b1.mono (by simp)))
  have s1 : w.heap.size < w1.heap.size := by have := b1.size; simp at this; omega
  have X1 := Lib.hid (Box.new w1 23 #[.int .u8 p0, .int .u8 m0])
  clear b1
  go_wp2_with (fail)
  go_loopw [11] (fun v wr => ∃ k : Nat, k ≤ n ∧ v = .int .i64 k ∧ Box wr w1.heap.size 23 #[.int .u8 (Fo c q I B i k).1, .int .u8 (Fo c q I B i k).2] ∧ Box wr w.heap.size 23 #[.int .u8 0, .int .u8 0] ∧ Below w.heap.size w wr) (fun v _ => n - (intOf v).toNat)
  case atStart => exact ⟨0, Nat.zero_le _, rfl, by rw [F0.out]; exact X1.out, XR1.out.alloc _, B1.out.alloc B1.out.size _⟩
  case round =>
    obtain ⟨k, hk, rfl, hX, hR, hB⟩ := hrel
    have BB := Lib.hid hB
    have XX := Lib.hid hX
    have RR := Lib.hid hR
    have x0 : wr.cell? ⟨w1.heap.size, 0, none⟩ = some (.int .u8 (Fo c q I B i k).1) := by simpa using hX.cell 0
    have x1 : wr.cell? ⟨w1.heap.size, 1, none⟩ = some (.int .u8 (Fo c q I B i k).2) := by simpa using hX.cell 1
    have sx := hX.lt
    clear hX hR
    by_cases hlt : k < n
    · obtain ⟨b, off, rfl, hb, l0, l1, i0, i1, j0, j1⟩ := HS.out.at' hlt
      have l0' := (hB.cell (p := ⟨b, off + k * 2, none⟩) hb).trans l0
      have l1' := (hB.cell (p := ⟨b, off + k * 2 + 1, none⟩) hb).trans l1
      clear hB l0 l1
      have ST := Lib.hid (fo_step c q I B i k)
      have SK := Lib.hid (fo_skip c q I B i k)
      have hg := fo_good c q I B i hi k
      obtain ⟨g0, g1, g2, g3⟩ := hg
      generalize I k = x at *
      generalize B k = y at *
      have HR := Lib.hid (fun w => rest_any x 286 i0 i1 (by decide) (by decide) w)
      have k0 : (0 : Int) ≤ (k : Int) := by omega
      have k1 : (k : Int) < (n : Int) := by omega
      by_cases hx : x % 286 = (i : Int)
      · have HE := Lib.hid hx
        rw [hx] at HR
        have ei : (((i : Nat) : Int) == ((i : Nat) : Int)) = true := by simp
        have ST1 := Lib.hid (ST.out hx)
        have hm : (y.tmod 2) = y % 2 := Int.tmod_eq_emod_of_nonneg j0
        have y0 : 0 ≤ y % 2 := by omega
        have y1 : y % 2 ≤ 1 := by omega
        have HN := Lib.hid (fun w => next_any (Fo c q I B i k).1 (Fo c q I B i k).2 (y % 2) g0 g2 y0 w 25 (.inl rfl))
        clear hx ST SK
        generalize nxtP (Fo c q I B i k).1 (Fo c q I B i k).2 (y % 2) = p' at *
        generalize nxtM (Fo c q I B i k).1 (Fo c q I B i k).2 (y % 2) = m' at *
        generalize nxtE (Fo c q I B i k).1 (Fo c q I B i k).2 (y % 2) = e' at *
        generalize (Fo c q I B i k).1 = p at *
        generalize (Fo c q I B i k).2 = m at *
        go_wp2_with (go_at_call 13; refine (HR.out _).mono ?_; rintro e w2 ⟨rfl, rfl⟩)
        go_region_with
          (first
            | (go_at_call 25; refine (HN.out _).mono ?_; rintro e w3 ⟨rfl, b3⟩; have X3 := (show Box wr.drew w1.heap.size 23 #[.int .u8 p, .int .u8 m] from XX.out).below b3 (by simpa using sx); have z0 : w3.cell? ⟨w1.heap.size, 0, none⟩ = some (.int .u8 p) := (by simpa using X3.cell 0); have z1 : w3.cell? ⟨w1.heap.size, 1, none⟩ = some (.int .u8 m) := (by simpa using X3.cell 1); have z2 := X3.frozen 0; have z3 := X3.frozen 1; have z4 : w3.cell? ⟨b, off + k * 2 + 1, none⟩ = some (.int .u8 y) := ((b3.cell (p := ⟨b, off + k * 2 + 1, none⟩) (by have := BB.out.size; simp; omega)).trans (by simpa using l1')); have X3' := Lib.hid X3; have R3 := Lib.hid ((show Box wr.drew w.heap.size 23 #[.int .u8 0, .int .u8 0] from RR.out).below b3 (by have := BB.out.size; simp; omega)); have B3 := Lib.hid (BB.out.drew.trans (b3.mono (by have := BB.out.size; simp; omega))); clear b3 X3))
        all_goals
          go_wp2_with (fail)
          go_roundw
          case rel => exact ⟨k + 1, by omega, by go_num, by rw [ST1.out]; simpa using (X3'.out.set 0 (.int .u8 p')).set 1 (.int .u8 m'), (R3.out.far (by simp; omega) _).far (by simp; omega) _, (B3.out.setCell (by simp; omega) _).setCell (by simp; omega) _⟩
          case measure => simp [intOf]; omega
      · have SK1 := Lib.hid (SK.out hx)
        have ei : ((x % 286) == (i : Int)) = false := by simp [hx]
        clear ST SK hx
        go_wp2_with (go_at_call 13; refine (HR.out _).mono ?_; rintro e w2 ⟨rfl, rfl⟩)
        go_roundw
        case rel => exact ⟨k + 1, by omega, by go_num, by rw [SK1.out]; exact XX.out, RR.out, BB.out⟩
        case measure => simp [intOf]; omega
    · obtain rfl : k = n := by omega
      have y0 := RR.out.frozen 0
      have y1 := RR.out.frozen 1
      have z0 : wr.cell? ⟨w.heap.size, 0, none⟩ = some (.int .u8 0) := by simpa using RR.out.cell 0
      have z1 : wr.cell? ⟨w.heap.size, 1, none⟩ = some (.int .u8 0) := by simpa using RR.out.cell 1
      go_wp2_with (fail)
      refine bodyPost_ret (v := .agg #[.int .u8 (Fo c q I B i k).1, .int .u8 (Fo c q I B i k).2]) (by simp [results, Try.f17, go_sem, z0, z1]) rfl ⟨rfl, ?_⟩
      exact (hB.setCell (Nat.le_refl _) _).setCell (Nat.le_refl _) _

end Go.Proofs.Ytomeiofieheggaa
