/- CtxMatches: whatever a table sees, its states are the reference's; so are those of a copy, and of the table after the copy has seen the rest; no conditions. -/
import Derived.Test.YtomeiofieheggaaRows
import Derived.WalkKit
import Derived.ProofKit
import Derived.OpenShut
import Derived.ShutString
import Derived.ChangeOld
import Derived.Below
import Derived.Deep.RegionHeld3
import Derived.Deep.DeepCutAuto
import Derived.Test.YtomeiofieheggaaPairs
namespace Go.Proofs.Ytomeiofieheggaa.ctxMatches
open Go.ChangeShapes Go.WideShapes Go.ChangeAt Go.RowKit
open Go.ChangeMaps (open_string shut_string)
set_option linter.unusedVariables false
set_option linter.unusedSimpArgs false

theorem own : ownKnob Try.prog.godebug = none := by kernel_rfl
theorem laidOut : laidOutB Try.prog = true := by kernel_rfl

theorem two_box {w w1 : World} {cs : Array Value} (t : TypeId) (b : Below (w.alloc (.cells cs t)).heap.size (w.alloc (.cells cs t)) w1) : Box w1 w.heap.size t cs := (Box.new w t cs).below b (by simp)

set_option maxRecDepth 100000 in
set_option maxHeartbeats 16000000 in
theorem walk (a0 a1 : Int) (a2 : Option Addr) (len2 cap2 : Nat) (I B : Nat → Int) (a3 : Int) (w : World) (w0 : (Lit.int .i64 a0).wf = true) (w1 : (Lit.int .i64 a1).wf = true) (w3 : (Lit.int .i64 a3).wf = true) (hl : len2 ≤ cap2) (hcap : cap2 ≤ maxLen) (hS : Sees w a2 len2 I B) :
    Calls Try.prog 8 #[.int .i64 a0, .int .i64 a1, .slice a2 len2 cap2, .int .i64 a3] w fun e w' => e = .returned (.bool true) ∧ Below w.heap.size w w' := by
  have hr0 := bounds_i64 w0
  have hr1 := bounds_i64 w1
  have hr3 := bounds_i64 w3
  have HS := Lib.hid hS
  have hlen : len2 ≤ 9223372036854775807 := by unfold maxLen at hcap; omega
  clear hS hcap hl hr0 hr1 w0 w1 w3
  by_cases hok : 0 ≤ a0 ∧ a0 ≤ 3 ∧ 0 ≤ a1 ∧ a1 ≤ 51
  · obtain ⟨c0, c1, q0, q1⟩ := hok
    have HN := Lib.hid (fun w => new_yes a0 a1 c0 c1 q0 q1 w)
    have HR := Lib.hid (fun w => rnew_yes a0 a1 c0 c1 q0 q1 w)
    have HG := Lib.hid (S0_good a0 a1)
    generalize S0 a0 a1 = S0' at *
    clear c0 c1 q0 q1
    go_enter Try.func8, Try.ntmps8
    go_wp2_with (fail)
    refine (HN.out _).mono ?_
    rintro e w1 ⟨rfl, t1, b1⟩
    have T1 := Lib.hid t1
    have B1 := Lib.hid b1
    have s1 := t1.lt
    clear t1 b1
    go_wp2_with (fail)
    refine (HR.out _).mono ?_
    rintro e w2 ⟨rfl, ⟨r0, u2, hr0⟩, b2⟩
    have P2 := Lib.hid (Pairs.start (H := w.heap.size) (T1.out.below b2 s1) u2 HG.out (by omega) (by omega) ⟨Nat.le_refl _, by omega, by omega⟩)
    have B2 := Lib.hid (B1.out.trans (b2.mono B1.out.size))
    clear u2 b2 T1
    go_wp2_with (fail)
    go_loopw [13, 14, 15] (fun xv yv v wr => ∃ (k gx hy ry : Nat) (St Sx : Nat → Int × Int), k ≤ len2 ∧ k ≤ 300 ∧ v = .int .i64 k ∧ xv = .pointer (some ⟨gx, 0, none⟩) ∧ yv = .pointer (some ⟨hy, 0, none⟩) ∧ Pairs w.heap.size wr w.heap.size w1.heap.size r0 gx hy ry St Sx ∧ Below w.heap.size w wr) (fun _ _ v _ => 300 - (intOf v).toNat)
    case atStart => exact ⟨0, _, _, _, _, _, Nat.zero_le _, by omega, rfl, rfl, rfl, P2.out, B2.out⟩
    case round =>
      obtain ⟨k, gx, hy, ry, St, Sx, hk, hk3, rfl, rfl, rfl, hP, hB⟩ := hrel
      have PW := Lib.hid hP
      have BW := Lib.hid hB
      clear hP hB P2
      by_cases hlt : k < len2 ∧ k < 300
      · obtain ⟨hlt1, hlt2⟩ := hlt
        obtain ⟨b, off, rfl, hb, l0, l1, i0, i1, j0, j1⟩ := HS.out.at' hlt1
        have L0 := Lib.hid l0
        have L1 := Lib.hid l1
        clear l0 l1
        generalize I k = xx at *
        generalize B k = yy at *
        have k0 : (0 : Int) ≤ (k : Int) := by omega
        have k1 : (k : Int) < (len2 : Int) := by omega
        have k2 : (k : Int) < 300 := by omega
        by_cases hat : (k : Int) = a3
        · have ea : ((k : Int) == a3) = true := by simp [hat]
          clear hat
          go_wp2_with (fail)
          refine (copy_yes w.heap.size St wr PW.out.tt).mono ?_
          rintro e w3 ⟨rfl, t3, _, b3⟩
          have TU3 := Lib.hid (PW.out.tu.same b3)
          have T3 := Lib.hid t3
          have B3 := Lib.hid b3
          have hzr := BW.out.size
          clear t3 b3
          go_wp2_with (fail)
          refine (rcopy_yes w1.heap.size r0 St w3 TU3.out).mono ?_
          rintro e w4 ⟨⟨h', rfl, hh, r', t4, hr'⟩, b4⟩
          have P4 := Lib.hid (PW.out.copy T3.out B3.out t4 b4 hh hr')
          have B4 := Lib.hid (BW.out.trans ((B3.out.mono hzr).trans (b4.mono (by have := B3.out.size; omega))))
          clear t4 b4
          have m0 := (B4.out.cell (p := ⟨b, off + k * 2, none⟩) hb).trans L0.out
          have m1 := (B4.out.cell (p := ⟨b, off + k * 2 + 1, none⟩) hb).trans L1.out
          have hzB := B4.out.size
          have HSX := Lib.hid (fun w t => see_any wr.heap.size St xx yy P4.out.gdx j0 w t)
          have HSY := Lib.hid (fun w t => rsee_any h' r' St xx yy P4.out.gdx j0 w t)
          have HG := Lib.hid (seeS_good (S := St) P4.out.gdx (i := xx) (b := yy) j0)
          have HPS := Lib.hid (fun w1 w2 f1 t1 f2 t2 => Pairs.see (w1 := w1) (w2 := w2) P4.out.drew f1 t1 f2 t2 HG.out)
          have HST := Lib.hid (fun w t => state_any wr.heap.size (seeS St xx yy) xx w t)
          have HSU := Lib.hid (fun w t => rstate_any h' r' (seeS St xx yy) xx w t)
          have e5 : (seeE xx yy != seeE xx yy) = false := by simp
          generalize seeS St xx yy = S' at *
          generalize seeE xx yy = er at *
          generalize stP S' xx = p at *
          generalize stM S' xx = m at *
          generalize stE xx = es at *
          have e1 : (p != p) = false := by simp
          have e2 : (m != m) = false := by simp
          have e3 : (p == p) = true := by simp
          have e4 : (m == m) = true := by simp
          have e6 : (es != es) = false := by simp
          obtain ⟨x1a, x1b, x1c, x1d⟩ := P4.out.x1
          have hgxb : w.heap.size ≤ wr.heap.size := P4.out.bd.2.2.2.1
          have hryb : w.heap.size ≤ r' := P4.out.bd.2.2.2.2.2
          go_wp2_with (fail)
          go_region_held3 (fun w' => w'.cell? ⟨b, off + k * 2, none⟩ = some (.int .i64 xx) ∧ w'.cell? ⟨b, off + k * 2 + 1, none⟩ = some (.int .u8 yy))
            (first | exact ⟨m0, m1⟩ | exact ⟨by simpa using m0, by simpa using m1⟩ | exact ⟨z0, z1⟩ | exact ⟨n0, n1⟩)
            (first
              | (go_at_call 15; refine (HSX.out _ (by exact P4.out.tx)).mono ?_; rintro e w5 ⟨rfl, t5, f5⟩; have b5 := B4.out.drew.trans (f5.below hgxb hzB); have z0 := (b5.cell (p := ⟨b, off + k * 2, none⟩) hb).trans L0.out; have z1 := (b5.cell (p := ⟨b, off + k * 2 + 1, none⟩) hb).trans L1.out; have TY5 := Lib.hid (RTab.far f5 (show RTab (World.drew w4) h' r' St from P4.out.ty) (Ne.symm x1a) (Ne.symm x1b)); have T5 := Lib.hid t5; have F5 := Lib.hid f5; have B5 := Lib.hid b5; clear t5 f5 b5)
              | (go_at_call 23; refine (HSY.out _ (by exact TY5.out)).mono ?_; rintro e w6 ⟨rfl, t6, f6⟩; have b6 := B5.out.trans (f6.below hryb B5.out.size); have n0 := (b6.cell (p := ⟨b, off + k * 2, none⟩) hb).trans L0.out; have n1 := (b6.cell (p := ⟨b, off + k * 2 + 1, none⟩) hb).trans L1.out; have PP := Lib.hid (HPS.out _ _ F5.out T5.out f6 t6); have B6 := Lib.hid b6; clear t6 f6 b6))
          all_goals
            obtain ⟨St', hP6⟩ := PP.out
            have P6 := Lib.hid hP6
            clear hP6 m0 m1 z0 z1
            go_wp2_with (fail)
            refine (HST.out _ P6.out.tx).mono ?_
            rintro e w7 ⟨rfl, b7⟩
            have P7 := Lib.hid ((P6.out.same b7).same ((Below.refl _ w7).alloc (Nat.le_refl _) (.cells #[.int .u8 p, .int .u8 m] 23)))
            have B7 := Lib.hid ((B6.out.trans (b7.mono B6.out.size)).alloc (by have := B6.out.size; have := b7.size; omega) (.cells #[.int .u8 p, .int .u8 m] 23))
            have o0 := (B7.out.cell (p := ⟨b, off + k * 2, none⟩) hb).trans L0.out
            have hb7 : b ≠ w7.heap.size := by have := B6.out.size; have := b7.size; omega
            have o0' := ((B6.out.trans (b7.mono B6.out.size)).cell (p := ⟨b, off + k * 2, none⟩) hb).trans L0.out
            have hw7 : w.heap.size ≤ w7.heap.size := by have := B6.out.size; have := b7.size; omega
            clear b7 n0 n1
            go_wp2_with (fail)
            refine (HSU.out _ P7.out.ty).mono ?_
            rintro e w8 ⟨rfl, b8⟩
            have X8 := two_box 23 b8
            have P8 := Lib.hid ((P7.out.same b8).same ((Below.refl _ w8).alloc (Nat.le_refl _) (.cells #[.int .u8 p, .int .u8 m] 23)))
            have B8 := Lib.hid ((B7.out.trans (b8.mono B7.out.size)).alloc (by have := B7.out.size; have := b8.size; omega) (.cells #[.int .u8 p, .int .u8 m] 23))
            have f0 : w8.cell? ⟨w7.heap.size, 0, none⟩ = some (.int .u8 p) := by simpa using X8.cell 0
            have f1 : w8.cell? ⟨w7.heap.size, 1, none⟩ = some (.int .u8 m) := by simpa using X8.cell 1
            have s8 := X8.lt
            clear b8 X8 o0 o0'
            go_wp2_with (fail)
            go_roundw
            case rel => first | exact ⟨k + 1, wr.heap.size, h', r', St', S', by omega, by omega, by go_num, rfl, rfl, P8.out, B8.out⟩ | ((repeat apply Exists.intro); exact ⟨⟨k + 1, wr.heap.size, h', r', St', S', by omega, by omega, by go_num, rfl, rfl, P8.out, B8.out⟩, rfl⟩)
            case measure => simp [intOf]; omega
        · have ea : ((k : Int) == a3) = false := by simp [hat]
          clear hat
          have m0 := (BW.out.cell (p := ⟨b, off + k * 2, none⟩) hb).trans L0.out
          have m1 := (BW.out.cell (p := ⟨b, off + k * 2 + 1, none⟩) hb).trans L1.out
          have hzB := BW.out.size
          have HSX := Lib.hid (fun w t => see_any gx Sx xx yy PW.out.gdx j0 w t)
          have HSY := Lib.hid (fun w t => rsee_any hy ry Sx xx yy PW.out.gdx j0 w t)
          have HG := Lib.hid (seeS_good (S := Sx) PW.out.gdx (i := xx) (b := yy) j0)
          have HPS := Lib.hid (fun w1 w2 f1 t1 f2 t2 => Pairs.see (w1 := w1) (w2 := w2) PW.out.drew f1 t1 f2 t2 HG.out)
          have HST := Lib.hid (fun w t => state_any gx (seeS Sx xx yy) xx w t)
          have HSU := Lib.hid (fun w t => rstate_any hy ry (seeS Sx xx yy) xx w t)
          have e5 : (seeE xx yy != seeE xx yy) = false := by simp
          generalize seeS Sx xx yy = S' at *
          generalize seeE xx yy = er at *
          generalize stP S' xx = p at *
          generalize stM S' xx = m at *
          generalize stE xx = es at *
          have e1 : (p != p) = false := by simp
          have e2 : (m != m) = false := by simp
          have e3 : (p == p) = true := by simp
          have e4 : (m == m) = true := by simp
          have e6 : (es != es) = false := by simp
          obtain ⟨x1a, x1b, x1c, x1d⟩ := PW.out.x1
          have hgxb : w.heap.size ≤ gx := PW.out.bd.2.2.2.1
          have hryb : w.heap.size ≤ ry := PW.out.bd.2.2.2.2.2
          go_wp2_with (fail)
          go_region_held3 (fun w' => w'.cell? ⟨b, off + k * 2, none⟩ = some (.int .i64 xx) ∧ w'.cell? ⟨b, off + k * 2 + 1, none⟩ = some (.int .u8 yy))
            (first | exact ⟨m0, m1⟩ | exact ⟨by simpa using m0, by simpa using m1⟩ | exact ⟨z0, z1⟩ | exact ⟨n0, n1⟩)
            (first
              | (go_at_call 15; refine (HSX.out _ (by exact PW.out.tx)).mono ?_; rintro e w5 ⟨rfl, t5, f5⟩; have b5 := BW.out.drew.trans (f5.below hgxb hzB); have z0 := (b5.cell (p := ⟨b, off + k * 2, none⟩) hb).trans L0.out; have z1 := (b5.cell (p := ⟨b, off + k * 2 + 1, none⟩) hb).trans L1.out; have TY5 := Lib.hid (RTab.far f5 (show RTab (World.drew wr) hy ry Sx from PW.out.ty) (Ne.symm x1a) (Ne.symm x1b)); have T5 := Lib.hid t5; have F5 := Lib.hid f5; have B5 := Lib.hid b5; clear t5 f5 b5)
              | (go_at_call 23; refine (HSY.out _ (by exact TY5.out)).mono ?_; rintro e w6 ⟨rfl, t6, f6⟩; have b6 := B5.out.trans (f6.below hryb B5.out.size); have n0 := (b6.cell (p := ⟨b, off + k * 2, none⟩) hb).trans L0.out; have n1 := (b6.cell (p := ⟨b, off + k * 2 + 1, none⟩) hb).trans L1.out; have PP := Lib.hid (HPS.out _ _ F5.out T5.out f6 t6); have B6 := Lib.hid b6; clear t6 f6 b6))
          all_goals
            obtain ⟨St', hP6⟩ := PP.out
            have P6 := Lib.hid hP6
            clear hP6 m0 m1 z0 z1
            go_wp2_with (fail)
            refine (HST.out _ P6.out.tx).mono ?_
            rintro e w7 ⟨rfl, b7⟩
            have P7 := Lib.hid ((P6.out.same b7).same ((Below.refl _ w7).alloc (Nat.le_refl _) (.cells #[.int .u8 p, .int .u8 m] 23)))
            have B7 := Lib.hid ((B6.out.trans (b7.mono B6.out.size)).alloc (by have := B6.out.size; have := b7.size; omega) (.cells #[.int .u8 p, .int .u8 m] 23))
            have o0 := (B7.out.cell (p := ⟨b, off + k * 2, none⟩) hb).trans L0.out
            have hb7 : b ≠ w7.heap.size := by have := B6.out.size; have := b7.size; omega
            have o0' := ((B6.out.trans (b7.mono B6.out.size)).cell (p := ⟨b, off + k * 2, none⟩) hb).trans L0.out
            have hw7 : w.heap.size ≤ w7.heap.size := by have := B6.out.size; have := b7.size; omega
            clear b7 n0 n1
            go_wp2_with (fail)
            refine (HSU.out _ P7.out.ty).mono ?_
            rintro e w8 ⟨rfl, b8⟩
            have X8 := two_box 23 b8
            have P8 := Lib.hid ((P7.out.same b8).same ((Below.refl _ w8).alloc (Nat.le_refl _) (.cells #[.int .u8 p, .int .u8 m] 23)))
            have B8 := Lib.hid ((B7.out.trans (b8.mono B7.out.size)).alloc (by have := B7.out.size; have := b8.size; omega) (.cells #[.int .u8 p, .int .u8 m] 23))
            have f0 : w8.cell? ⟨w7.heap.size, 0, none⟩ = some (.int .u8 p) := by simpa using X8.cell 0
            have f1 : w8.cell? ⟨w7.heap.size, 1, none⟩ = some (.int .u8 m) := by simpa using X8.cell 1
            have s8 := X8.lt
            clear b8 X8 o0 o0'
            go_wp2_with (fail)
            go_roundw
            case rel => first | exact ⟨k + 1, gx, hy, ry, St', S', by omega, by omega, by go_num, rfl, rfl, P8.out, B8.out⟩ | ((repeat apply Exists.intro); exact ⟨⟨k + 1, gx, hy, ry, St', S', by omega, by omega, by go_num, rfl, rfl, P8.out, B8.out⟩, rfl⟩)
            case measure => simp [intOf]; omega
      · have hend : (k : Int) < (len2 : Int) → (k : Int) = 300 := by omega
        by_cases hl2 : (k : Int) < (len2 : Int)
        · have hk300 : k = 300 := by have := hend hl2; omega
          subst hk300
          clear hend hlt
          go_wp2_with (fail)
          obtain ⟨wo, rfl⟩ : ∃ wo : World, wo = wr := ⟨_, rfl⟩
          go_loopw [20] (fun v wr => ∃ j : Nat, j ≤ 288 ∧ v = .int .i64 ((j : Int) - 1) ∧ Pairs w.heap.size wr w.heap.size w1.heap.size r0 gx hy ry St Sx ∧ Below w.heap.size w wr) (fun v _ => 288 - (intOf v + 1).toNat)
          case atStart => exact ⟨0, by omega, rfl, PW.out, BW.out⟩
          case round =>
            obtain ⟨j, hj, rfl, hP, hB⟩ := hrel
            have P5 := Lib.hid hP
            have B5 := Lib.hid hB
            have z5 := hB.size
            clear hP hB
            by_cases hj2 : (j : Int) - 1 ≤ 286
            · have H1 := Lib.hid (fun w t => state_any gx Sx ((j : Int) - 1) w t)
              have H2 := Lib.hid (fun w t => rstate_any hy ry Sx ((j : Int) - 1) w t)
              have H3 := Lib.hid (fun wx t => state_any w.heap.size St ((j : Int) - 1) wx t)
              have H4 := Lib.hid (fun wx t => rstate_any w1.heap.size r0 St ((j : Int) - 1) wx t)
              generalize stP Sx ((j : Int) - 1) = p at *
              generalize stM Sx ((j : Int) - 1) = m at *
              generalize stP St ((j : Int) - 1) = p' at *
              generalize stM St ((j : Int) - 1) = m' at *
              generalize stE ((j : Int) - 1) = es at *
              have e1 : (p != p) = false := by simp
              have e2 : (m != m) = false := by simp
              have e3 : (p == p) = true := by simp
              have e4 : (m == m) = true := by simp
              have e5 : (p' != p') = false := by simp
              have e6 : (m' != m') = false := by simp
              have e7 : (p' == p') = true := by simp
              have e8 : (m' == m') = true := by simp
              have e9 : (es != es) = false := by simp
              go_wp2_with (fail)
              refine (H1.out _ P5.out.tx).mono ?_
              rintro e v1 ⟨rfl, b1⟩
              have X1 := Lib.hid (Box.new v1 23 #[.int .u8 p, .int .u8 m])
              have P6 := Lib.hid ((P5.out.same b1).same ((Below.refl _ v1).alloc (Nat.le_refl _) (.cells #[.int .u8 p, .int .u8 m] 23)))
              have B6 := Lib.hid ((B5.out.trans (b1.mono z5)).alloc (by have := b1.size; omega) (.cells #[.int .u8 p, .int .u8 m] 23))
              clear b1
              go_wp2_with (fail)
              refine (H2.out _ P6.out.ty).mono ?_
              rintro e v2 ⟨rfl, b2⟩
              have X2 := Lib.hid ((X1.out.below b2 (by simp)).alloc (.cells #[.int .u8 p, .int .u8 m] 23))
              have Y2 := Lib.hid (Box.new v2 23 #[.int .u8 p, .int .u8 m])
              have P7 := Lib.hid ((P6.out.same b2).same ((Below.refl _ v2).alloc (Nat.le_refl _) (.cells #[.int .u8 p, .int .u8 m] 23)))
              have B7 := Lib.hid ((B6.out.trans (b2.mono B6.out.size)).alloc (by have := B6.out.size; have := b2.size; omega) (.cells #[.int .u8 p, .int .u8 m] 23))
              have s2 : v1.heap.size < v2.heap.size := by have := b2.size; simp at this; omega
              clear b2
              go_wp2_with (fail)
              refine (H3.out _ P7.out.tt).mono ?_
              rintro e v3 ⟨rfl, b3⟩
              have X3 := Lib.hid ((X2.out.below b3 X2.out.lt).alloc (.cells #[.int .u8 p', .int .u8 m'] 23))
              have Y3 := Lib.hid ((Y2.out.below b3 (by simp)).alloc (.cells #[.int .u8 p', .int .u8 m'] 23))
              have Z3 := Lib.hid (Box.new v3 23 #[.int .u8 p', .int .u8 m'])
              have P8 := Lib.hid ((P7.out.same b3).same ((Below.refl _ v3).alloc (Nat.le_refl _) (.cells #[.int .u8 p', .int .u8 m'] 23)))
              have B8 := Lib.hid ((B7.out.trans (b3.mono B7.out.size)).alloc (by have := B7.out.size; have := b3.size; omega) (.cells #[.int .u8 p', .int .u8 m'] 23))
              have s3 : v2.heap.size < v3.heap.size := by have := b3.size; simp at this; omega
              clear b3
              go_wp2_with (fail)
              refine (H4.out _ P8.out.tu).mono ?_
              rintro e v4 ⟨rfl, b4⟩
              have X4 := X3.out.below b4 X3.out.lt
              have Y4 := Y3.out.below b4 Y3.out.lt
              have Z4 := Z3.out.below b4 (by simp)
              have P9 := Lib.hid ((P8.out.same b4).same ((Below.refl _ v4).alloc (Nat.le_refl _) (.cells #[.int .u8 p', .int .u8 m'] 23)))
              have B9 := Lib.hid ((B8.out.trans (b4.mono B8.out.size)).alloc (by have := B8.out.size; have := b4.size; omega) (.cells #[.int .u8 p', .int .u8 m'] 23))
              have s4 : v3.heap.size < v4.heap.size := by have := b4.size; simp at this; omega
              have s14 : v1.heap.size < v4.heap.size := by omega
              have s24 : v2.heap.size < v4.heap.size := by omega
              have f0 : v4.cell? ⟨v1.heap.size, 0, none⟩ = some (.int .u8 p) := by simpa using X4.cell 0
              have f1 : v4.cell? ⟨v1.heap.size, 1, none⟩ = some (.int .u8 m) := by simpa using X4.cell 1
              have f2 : v4.cell? ⟨v2.heap.size, 0, none⟩ = some (.int .u8 p) := by simpa using Y4.cell 0
              have f3 : v4.cell? ⟨v2.heap.size, 1, none⟩ = some (.int .u8 m) := by simpa using Y4.cell 1
              have f4 : v4.cell? ⟨v3.heap.size, 0, none⟩ = some (.int .u8 p') := by simpa using Z4.cell 0
              have f5 : v4.cell? ⟨v3.heap.size, 1, none⟩ = some (.int .u8 m') := by simpa using Z4.cell 1
              clear b4 X4 Y4 Z4
              go_wp2_with (fail)
              go_roundw
              case rel => first | exact ⟨j + 1, by omega, by go_num, P9.out, B9.out⟩ | ((repeat apply Exists.intro); exact ⟨⟨j + 1, by omega, by go_num, P9.out, B9.out⟩, rfl⟩)
              case measure => simp [intOf]; omega
            · go_wp2_with (fail)
              refine (alive_yes _).mono ?_
              rintro e v9 ⟨rfl, b9⟩
              have B9 := Lib.hid (B5.out.trans (b9.mono z5))
              clear b9
              go_wp2_with (fail)
              go_ret
              exact ⟨rfl, B9.out⟩
        · clear hend hlt
          go_wp2_with (fail)
          obtain ⟨wo, rfl⟩ : ∃ wo : World, wo = wr := ⟨_, rfl⟩
          go_loopw [20] (fun v wr => ∃ j : Nat, j ≤ 288 ∧ v = .int .i64 ((j : Int) - 1) ∧ Pairs w.heap.size wr w.heap.size w1.heap.size r0 gx hy ry St Sx ∧ Below w.heap.size w wr) (fun v _ => 288 - (intOf v + 1).toNat)
          case atStart => exact ⟨0, by omega, rfl, PW.out, BW.out⟩
          case round =>
            obtain ⟨j, hj, rfl, hP, hB⟩ := hrel
            have P5 := Lib.hid hP
            have B5 := Lib.hid hB
            have z5 := hB.size
            clear hP hB
            by_cases hj2 : (j : Int) - 1 ≤ 286
            · have H1 := Lib.hid (fun w t => state_any gx Sx ((j : Int) - 1) w t)
              have H2 := Lib.hid (fun w t => rstate_any hy ry Sx ((j : Int) - 1) w t)
              have H3 := Lib.hid (fun wx t => state_any w.heap.size St ((j : Int) - 1) wx t)
              have H4 := Lib.hid (fun wx t => rstate_any w1.heap.size r0 St ((j : Int) - 1) wx t)
              generalize stP Sx ((j : Int) - 1) = p at *
              generalize stM Sx ((j : Int) - 1) = m at *
              generalize stP St ((j : Int) - 1) = p' at *
              generalize stM St ((j : Int) - 1) = m' at *
              generalize stE ((j : Int) - 1) = es at *
              have e1 : (p != p) = false := by simp
              have e2 : (m != m) = false := by simp
              have e3 : (p == p) = true := by simp
              have e4 : (m == m) = true := by simp
              have e5 : (p' != p') = false := by simp
              have e6 : (m' != m') = false := by simp
              have e7 : (p' == p') = true := by simp
              have e8 : (m' == m') = true := by simp
              have e9 : (es != es) = false := by simp
              go_wp2_with (fail)
              refine (H1.out _ P5.out.tx).mono ?_
              rintro e v1 ⟨rfl, b1⟩
              have X1 := Lib.hid (Box.new v1 23 #[.int .u8 p, .int .u8 m])
              have P6 := Lib.hid ((P5.out.same b1).same ((Below.refl _ v1).alloc (Nat.le_refl _) (.cells #[.int .u8 p, .int .u8 m] 23)))
              have B6 := Lib.hid ((B5.out.trans (b1.mono z5)).alloc (by have := b1.size; omega) (.cells #[.int .u8 p, .int .u8 m] 23))
              clear b1
              go_wp2_with (fail)
              refine (H2.out _ P6.out.ty).mono ?_
              rintro e v2 ⟨rfl, b2⟩
              have X2 := Lib.hid ((X1.out.below b2 (by simp)).alloc (.cells #[.int .u8 p, .int .u8 m] 23))
              have Y2 := Lib.hid (Box.new v2 23 #[.int .u8 p, .int .u8 m])
              have P7 := Lib.hid ((P6.out.same b2).same ((Below.refl _ v2).alloc (Nat.le_refl _) (.cells #[.int .u8 p, .int .u8 m] 23)))
              have B7 := Lib.hid ((B6.out.trans (b2.mono B6.out.size)).alloc (by have := B6.out.size; have := b2.size; omega) (.cells #[.int .u8 p, .int .u8 m] 23))
              have s2 : v1.heap.size < v2.heap.size := by have := b2.size; simp at this; omega
              clear b2
              go_wp2_with (fail)
              refine (H3.out _ P7.out.tt).mono ?_
              rintro e v3 ⟨rfl, b3⟩
              have X3 := Lib.hid ((X2.out.below b3 X2.out.lt).alloc (.cells #[.int .u8 p', .int .u8 m'] 23))
              have Y3 := Lib.hid ((Y2.out.below b3 (by simp)).alloc (.cells #[.int .u8 p', .int .u8 m'] 23))
              have Z3 := Lib.hid (Box.new v3 23 #[.int .u8 p', .int .u8 m'])
              have P8 := Lib.hid ((P7.out.same b3).same ((Below.refl _ v3).alloc (Nat.le_refl _) (.cells #[.int .u8 p', .int .u8 m'] 23)))
              have B8 := Lib.hid ((B7.out.trans (b3.mono B7.out.size)).alloc (by have := B7.out.size; have := b3.size; omega) (.cells #[.int .u8 p', .int .u8 m'] 23))
              have s3 : v2.heap.size < v3.heap.size := by have := b3.size; simp at this; omega
              clear b3
              go_wp2_with (fail)
              refine (H4.out _ P8.out.tu).mono ?_
              rintro e v4 ⟨rfl, b4⟩
              have X4 := X3.out.below b4 X3.out.lt
              have Y4 := Y3.out.below b4 Y3.out.lt
              have Z4 := Z3.out.below b4 (by simp)
              have P9 := Lib.hid ((P8.out.same b4).same ((Below.refl _ v4).alloc (Nat.le_refl _) (.cells #[.int .u8 p', .int .u8 m'] 23)))
              have B9 := Lib.hid ((B8.out.trans (b4.mono B8.out.size)).alloc (by have := B8.out.size; have := b4.size; omega) (.cells #[.int .u8 p', .int .u8 m'] 23))
              have s4 : v3.heap.size < v4.heap.size := by have := b4.size; simp at this; omega
              have s14 : v1.heap.size < v4.heap.size := by omega
              have s24 : v2.heap.size < v4.heap.size := by omega
              have f0 : v4.cell? ⟨v1.heap.size, 0, none⟩ = some (.int .u8 p) := by simpa using X4.cell 0
              have f1 : v4.cell? ⟨v1.heap.size, 1, none⟩ = some (.int .u8 m) := by simpa using X4.cell 1
              have f2 : v4.cell? ⟨v2.heap.size, 0, none⟩ = some (.int .u8 p) := by simpa using Y4.cell 0
              have f3 : v4.cell? ⟨v2.heap.size, 1, none⟩ = some (.int .u8 m) := by simpa using Y4.cell 1
              have f4 : v4.cell? ⟨v3.heap.size, 0, none⟩ = some (.int .u8 p') := by simpa using Z4.cell 0
              have f5 : v4.cell? ⟨v3.heap.size, 1, none⟩ = some (.int .u8 m') := by simpa using Z4.cell 1
              clear b4 X4 Y4 Z4
              go_wp2_with (fail)
              go_roundw
              case rel => first | exact ⟨j + 1, by omega, by go_num, P9.out, B9.out⟩ | ((repeat apply Exists.intro); exact ⟨⟨j + 1, by omega, by go_num, P9.out, B9.out⟩, rfl⟩)
              case measure => simp [intOf]; omega
            · go_wp2_with (fail)
              refine (alive_yes _).mono ?_
              rintro e v9 ⟨rfl, b9⟩
              have B9 := Lib.hid (B5.out.trans (b9.mono z5))
              clear b9
              go_wp2_with (fail)
              go_ret
              exact ⟨rfl, B9.out⟩
  · have HN := Lib.hid (fun w => new_no a0 a1 hok w)
    have HR := Lib.hid (fun w => rnew_no a0 a1 hok w)
    clear hok
    go_enter Try.func8, Try.ntmps8
    go_wp2_with (fail)
    refine (HN.out _).mono ?_
    rintro e w1 ⟨rfl, b1⟩
    have B1 := Lib.hid b1
    clear b1
    go_wp2_with (fail)
    refine (HR.out _).mono ?_
    rintro e w2 ⟨rfl, b2⟩
    have B2 := Lib.hid (B1.out.trans (b2.mono B1.out.size))
    clear b2
    go_wp2_with (fail)
    refine (alive_yes _).mono ?_
    rintro e w3 ⟨rfl, b3⟩
    have B3 := Lib.hid (B2.out.trans (b3.mono B2.out.size))
    clear b3
    go_wp2_with (fail)
    go_ret
    exact ⟨rfl, B3.out⟩

/-! ### The row -/
set_option maxRecDepth 100000 in
theorem lifted (os : Os) (started : os.Started) (H : Type) (enc : TypeId × Value → H) :
    ReturnsInHanded {} Try.checked os 8 .any (Rows.ctxMatchesSpec.pre6 enc Try.prog Try.f8 Rows.ctxMatchesRow.domain false) (Rows.ctxMatchesSpec.post enc Try.prog Try.f8 false true false false) := by
  refine returnsInHanded_of_change (C := Try.checked) own started (by kernel_rfl) Try.func8
    (ChangeSpec.witness6 (enc := enc) (C := Try.checked) false ⟨#[], #[.int .i64 0, .int .i64 0, .slice none 0 0, .int .i64 0], []⟩ 8 (by kernel_rfl) (by kernel_rfl) (by kernel_rfl) (by kernel_rfl)) ?_
  intro W base args ds gs before hval0 hW hcnd _
  have hval : ∀ (j : Nat) t v, Try.f8.params[j]? = some t → args[j]? = some v → Value.okWide Try.prog W .any base t v := hval0
  have hW' := hW
  obtain ⟨p, q, hA0, hV, rfl, hfz, hnd⟩ := hW
  have hA : DataW.TrodAll enc Try.prog W 0 (fun _ => true) true Try.f8.params.toList args.toList ds p := hA0
  rw [Try.params8] at hA hval
  obtain ⟨v0, vs0, d0, ds0, p0, q0, hargs, rfl, rfl, h0, r0⟩ := trodAll_cons hA
  obtain ⟨v1, vs1, d1, ds1, p1, q1, rfl, rfl, rfl, h1, r1⟩ := trodAll_cons r0
  obtain ⟨v2, vs2, d2, ds2, p2, q2, rfl, rfl, rfl, h2, r2⟩ := trodAll_cons r1
  obtain ⟨v3, vs3, d3, ds3, p3, q3, rfl, rfl, rfl, h3, r3⟩ := trodAll_cons r2
  obtain ⟨rfl, rfl, rfl⟩ := trodAll_nil r3
  obtain rfl : args = #[v0, v1, v2, v3] := by cases args; simp_all
  obtain ⟨rfl, rfl⟩ := trodVars_none hV
  obtain ⟨a0, rfl, rfl, rfl, w0⟩ := open_int Try.underlying3 (hval 0 3 v0 rfl rfl) h0
  obtain ⟨a1, rfl, rfl, rfl, w1⟩ := open_int Try.underlying3 (hval 1 3 v1 rfl rfl) h1
  obtain ⟨a3, rfl, rfl, rfl, w3⟩ := open_int Try.underlying3 (hval 3 3 v3 rfl rfl) h3
  obtain ⟨a2, len2, cap2, rfl⟩ := okWide_slice Try.underlying29 (hval 2 29 v2 rfl rfl)
  have k2 := h2
  have lt2 : ∀ x ∈ p2, x.block < W.heap.size := by obtain ⟨m, hm⟩ := k2; exact DataW.trod_lt m _ _ _ hm
  obtain ⟨I, B, hl, hcap, hS, _⟩ : ∃ I B, len2 ≤ cap2 ∧ cap2 ≤ maxLen ∧ Sees W a2 len2 I B ∧ True := by
    obtain ⟨fuel, hf⟩ := h2
    obtain ⟨I, B, e1, e2, e3, _⟩ := open_sees hf
    exact ⟨I, B, e1, e2, e3, trivial⟩
  clear hA0 hval0
  refine (walk a0 a1 a2 len2 cap2 I B a3 W w0 w1 w3 hl hcap hS).mono fun e W' ⟨he, bel⟩ => ?_
  subst he
  exact ⟨_, rfl, _, _, _, [], _, [], hW', trodAll_mk1 (shut_bool Try.underlying4 _), (trodAll_cons_mk (shut_int Try.underlying3 w0) (trodAll_cons_mk (shut_int Try.underlying3 w1) (trodAll_cons_mk (Below.trod laidOut (by kernel_rfl) (of_decide_eq_true (by kernel_rfl)) k2 bel lt2) (trodAll_cons_mk (shut_int Try.underlying3 w3) trodAll_mk0)))), rfl, bel.frame _, fun h => by cases h⟩

theorem over : Rows.ctxMatchesRow.holds Try.pinned (OpenSpec.ofChange Rows.ctxMatchesSpec) :=
  OpenClaim.holds_of_wide 8 Try.f8 rfl rfl rfl rfl rfl rfl rfl ⟨rfl, rfl, rfl, rfl, rfl⟩ rfl rfl rfl rfl rfl (by kernel_rfl) Try.func8 (by kernel_rfl)
    (of_decide_eq_true (by kernel_rfl)) (by unfold Func.isWrapper; first | (rw [if_pos (by decide +kernel)]; kernel_rfl) | (rw [if_neg (by decide +kernel)]; exact ⟨rfl, rfl⟩))
    (fun os started H enc _ => lifted os started H enc)

/-- The statement. -/
theorem proved : Rows.CtxMatchesSaid := over
#print axioms proved
end Go.Proofs.Ytomeiofieheggaa.ctxMatches
