/- RunsBlock: runs.Block and runs.Ones return what the reference returns, for any size and any levels and runs; no conditions. -/
import Derived.Test.YtcaglhodkdfncaaRows
import Derived.WalkKit
import Derived.ProofKit
import Derived.OpenShut
import Derived.ShutString
import Derived.ChangeOld
import Derived.Below
import Derived.Lib.SmallJoins
import Derived.Deep.RegionHeld3
import Derived.Deep.DeepCutAuto
import Derived.Test.YtcaglhodkdfncaaBad
import Derived.Test.YtcaglhodkdfncaaBlockBad
import Derived.Test.YtcaglhodkdfncaaRBlock2
namespace Go.Proofs.Ytcaglhodkdfncaa.runsBlock
open Go.ChangeShapes Go.WideShapes Go.ChangeAt Go.RowKit Go.Joins
set_option linter.unusedVariables false

theorem own : ownKnob Try.prog.godebug = none := by kernel_rfl
theorem laidOut : laidOutB Try.prog = true := by kernel_rfl
theorem cells25 : Try.prog.cellsOf 25 = 3 := by kernel_rfl

theorem mem_lev : ∀ (l : List Int) (v : Int), v ∈ l → v = 0 ∨ v ∈ lev l
  | [], _, h => by simp at h
  | x :: l, v, h => by
    by_cases hx : x = 0
    · subst hx
      rw [lev_zero]
      rcases List.mem_cons.1 h with h | h
      · exact .inl h
      · exact mem_lev l v h
    · rw [lev_cons hx]
      rcases List.mem_cons.1 h with h | h
      · subst h; exact .inr (by simp)
      · rcases mem_lev l v h with h | h
        · exact .inl h
        · exact .inr (by simp [h])

/-- What Block accepts, and what it refuses. -/
theorem blkSpec_cases (size : Int) (vs : List Int) (z : Int) (bs : List Int) :
    ((blkSpec size vs z bs).1 = [] ∧ ((blkSpec size vs z bs).2 = 2 ∨ (blkSpec size vs z bs).2 = 3 ∨ (blkSpec size vs z bs).2 = 4)) ∨
    (∃ b, blkSpec size vs z bs = (b, 0) ∧ (b.length : Int) = size ∧ (b.length = 4 ∨ b.length = 15 ∨ b.length = 16) ∧ Fits b ∧ lev b = vs ∧ zer b = z ∧ bef b = bs) := by
  unfold blkSpec
  split
  · rename_i hs
    split
    · rename_i hf
      split
      · rename_i hp
        obtain ⟨h1, h2, h3, h4⟩ := of_blk hp
        refine .inr ⟨_, rfl, by rw [h1]; omega, by rw [h1]; omega, fun v hv => ?_, h2, h3, h4⟩
        rcases mem_lev _ v hv with h | h
        · subst h; omega
        · rw [h2] at h; exact hf v h
      · exact .inl ⟨rfl, by simp⟩
    · exact .inl ⟨rfl, by simp⟩
  · exact .inl ⟨rfl, by simp⟩

theorem wf_bd {z : Int} (h : (Lit.int .i64 z).wf = true) : -9223372036854775808 ≤ z ∧ z ≤ 9223372036854775807 := bounds_i64 h

theorem ints_set {W : World} {a : Option Addr} {n c : Nat} {zs : List Int} (h : Ints W (.slice a n c) zs) {p : Addr} (hne : ∀ b off, a = some ⟨b, off, none⟩ → b ≠ p.block) (u : Value) : Ints (W.setCell p u) (.slice a n c) zs := by
  rcases h with h | ⟨b, off, cap, e, h0, hl, hc⟩
  · exact .inl h
  · injection e with e1 e2 e3
    refine .inr ⟨b, off, cap, by rw [e1, e2, e3], h0, hl, fun j hj => ?_⟩
    have hb := hne b off e1
    have hh := Below.heap_setCell W p u b hb
    have := hc.out j hj
    unfold World.cell? at this ⊢
    rw [hh]
    exact this
theorem own_at {w : World} {base n : Nat} {v : Value} {xs : List Value} {a : Option Addr} {l c : Nat} (h : w.ownsRow base 3 1 v n xs) (e : v = .slice a l c) : ∀ b off, a = some ⟨b, off, none⟩ → base ≤ b ∧ b < w.heap.size := by
  intro b off ha
  rcases h.2 with ⟨rfl, h1⟩ | ⟨g, cap, cur, rfl, hb, hg, _⟩
  · injection e with e1; rw [ha] at e1; simp at e1
  · injection e with e1; rw [ha] at e1; simp at e1; have := (Array.getElem?_eq_some_iff.1 hg).1; omega

structure Pair (W Wx : World) (gb : Nat) (a3 : Option Addr) (c3 : Nat) (a4 : Option Addr) (c4 : Nat) (vs : List Int) (z : Int) (bs : List Int) : Prop where
  box : Box Wx gb 25 #[.slice a3 vs.length c3, .int .i64 z, .slice a4 bs.length c4]
  i1 : Ints Wx (.slice a3 vs.length c3) vs
  i2 : Ints Wx (.slice a4 bs.length c4) bs
  bel : Below W.heap.size W Wx

set_option maxRecDepth 100000 in
set_option maxHeartbeats 8000000 in
theorem walk (size z : Int) (a1 a2 : Option Addr) (len1 cap1 len2 cap2 : Nat) (z1 z2 : List Int) (w : World) (wz : (Lit.int .i64 size).wf = true) (r1 : IsRow .i64 w a1 len1 cap1 z1) (wz' : (Lit.int .i64 z).wf = true) (r2 : IsRow .i64 w a2 len2 cap2 z2) :
    Calls Try.prog 8 #[.int .i64 size, .agg #[.slice a1 len1 cap1, .int .i64 z, .slice a2 len2 cap2]] w fun e w' => e = .returned (.bool true) ∧ Below w.heap.size w w' := by
  obtain ⟨hz0, hz1⟩ := wf_bd wz'
  by_cases h1 : 40 < len1
  · have hle1 : (40 : Int) < (len1 : Int) := by omega
    have hb1 : len1 ≤ 9223372036854775807 := by
      rcases r1 with ⟨_, rfl, _⟩ | ⟨x, _, h1, h2, _⟩
      · omega
      · simp only [maxLen] at h2; omega
    clear wz wz' r1 r2
    go_enter Try.func8, Try.ntmps8
    go_wp2
    go_ret
    exact ⟨rfl, (Below.refl _ w).alloc (Nat.le_refl _) _⟩
  · by_cases h2 : 40 < len2
    · have hb2 : len2 ≤ 9223372036854775807 := by
        rcases r2 with ⟨_, rfl, _⟩ | ⟨x, _, h1, h2, _⟩
        · omega
        · simp only [maxLen] at h2; omega
      have hle1 : ¬ (40 : Int) < (len1 : Int) := by omega
      have hle2 : (40 : Int) < (len2 : Int) := by omega
      clear wz wz' r1 r2
      go_enter Try.func8, Try.ntmps8
      go_wp2
      go_ret
      exact ⟨rfl, (Below.refl _ w).alloc (Nat.le_refl _) _⟩
    · have i1 := ints_of_row r1 (by omega)
      have i2 := ints_of_row r2 (by omega)
      obtain ⟨vs, hvs⟩ : ∃ vs, vs = z1.take len1 := ⟨_, rfl⟩
      obtain ⟨bs, hbs⟩ : ∃ bs, bs = z2.take len2 := ⟨_, rfl⟩
      have hl1 : vs.length = len1 := by rw [hvs]; exact row_len r1
      have hl2 : bs.length = len2 := by rw [hbs]; exact row_len r2
      rw [← hvs] at i1
      rw [← hbs] at i2
      subst hl1
      subst hl2
      have hb0 : Below w.heap.size w (w.alloc (.cells #[.slice a1 vs.length cap1, .int .i64 z, .slice a2 bs.length cap2] 25)) := (Below.refl _ w).alloc (Nat.le_refl _) _
      have X0 := Box.new w 25 #[.slice a1 vs.length cap1, .int .i64 z, .slice a2 bs.length cap2]
      have HX0 := Lib.hid X0
      have I1 := Lib.hid (i1.below hb0)
      have I2 := Lib.hid (i2.below hb0)
      have HB0 := Lib.hid hb0
      have hle1 : ¬ (40 : Int) < (vs.length : Int) := by omega
      have hle2 : ¬ (40 : Int) < (bs.length : Int) := by omega
      have hvl : vs.length ≤ 40 := by omega
      have hbl : bs.length ≤ 40 := by omega
      have hsW : w.heap.size < (w.alloc (.cells #[.slice a1 vs.length cap1, .int .i64 z, .slice a2 bs.length cap2] 25)).heap.size := by simp
      clear hvs hbs i1 i2 hb0 X0 wz wz' r1 r2
      go_enter Try.func8, Try.ntmps8
      go_wp2_with (fail)
      generalize w.alloc (.cells #[.slice a1 vs.length cap1, .int .i64 z, .slice a2 bs.length cap2] 25) = W at *
      have C1 := Lib.hid (show ∀ w', Below W.heap.size W w' → Calls Try.prog 10 #[.slice a1 vs.length cap1] w' fun e w'' => (∃ a c, e = .returned (.slice a vs.length c) ∧ Ints w'' (.slice a vs.length c) vs ∧ ∀ b off, a = some ⟨b, off, none⟩ → w'.heap.size ≤ b ∧ b < w''.heap.size) ∧ Below W.heap.size W w'' ∧ Below w'.heap.size w' w'' from fun w' hb =>
        (copyInts _ vs w' (I1.out.below hb)).mono fun e w'' ⟨v, he, ho, hb2⟩ => by
          obtain ⟨hi, _⟩ := ints_of_own ho (by omega)
          obtain ⟨a, c, rfl⟩ := hi.form
          exact ⟨⟨a, c, he, hi, own_at ho rfl⟩, hb.trans (hb2.mono hb.size), hb2⟩)
      have C2 := Lib.hid (show ∀ w', Below W.heap.size W w' → Calls Try.prog 10 #[.slice a2 bs.length cap2] w' fun e w'' => (∃ a c, e = .returned (.slice a bs.length c) ∧ Ints w'' (.slice a bs.length c) bs ∧ ∀ b off, a = some ⟨b, off, none⟩ → w'.heap.size ≤ b ∧ b < w''.heap.size) ∧ Below W.heap.size W w'' ∧ Below w'.heap.size w' w'' from fun w' hb =>
        (copyInts _ bs w' (I2.out.below hb)).mono fun e w'' ⟨v, he, ho, hb2⟩ => by
          obtain ⟨hi, _⟩ := ints_of_own ho (by omega)
          obtain ⟨a, c, rfl⟩ := hi.form
          exact ⟨⟨a, c, he, hi, own_at ho rfl⟩, hb.trans (hb2.mono hb.size), hb2⟩)
      have SIX := Lib.hid (show ∀ w', Below W.heap.size W w' → (Below W.heap.size W w' ∧ w'.cell? ⟨w.heap.size, 0, none⟩ = some (.slice a1 vs.length cap1) ∧ w'.cell? ⟨w.heap.size, 1, none⟩ = some (.int .i64 z) ∧ w'.cell? ⟨w.heap.size, 2, none⟩ = some (.slice a2 bs.length cap2)) from by
        intro w' hb
        have e1 := HX0.out.below hb hsW
        exact ⟨hb, by simpa using e1.cell 0, by simpa using e1.cell 1, by simpa using e1.cell 2⟩)
      have hb0 := Below.refl W.heap.size W
      obtain ⟨_, x0, x1, x2⟩ := SIX.out W hb0
      go_upto_region 3 with fail
      go_cut [5] (fun s5 wx => ∃ (gb : Nat) (a3 : Option Addr) (c3 : Nat) (a4 : Option Addr) (c4 : Nat), s5 = .pointer (some ⟨gb, 0, none⟩) ∧ Pair W wx gb a3 c3 a4 c4 vs z bs)
      case first =>
        go_region_held3 (fun w' => Below W.heap.size W w' ∧ w'.cell? ⟨w.heap.size, 0, none⟩ = some (.slice a1 vs.length cap1) ∧ w'.cell? ⟨w.heap.size, 1, none⟩ = some (.int .i64 z) ∧ w'.cell? ⟨w.heap.size, 2, none⟩ = some (.slice a2 bs.length cap2))
          (exact SIX.out _ (by repeat (first | assumption | exact And.left (by assumption) | refine Below.drew ?_ | refine Below.alloc ?_ (by first | exact bb.size | simp) _ | refine Below.setCell ?_ (by first | exact bb.size | (simp; done) | (simp; omega)) _)))
          (first
            | (go_at_call 10; (with_reducible refine (C1.out _ (by first | assumption | exact And.left (by assumption))).mono ?_); rintro e w3 ⟨⟨a3, c3, rfl, o3, q3⟩, bb, b3⟩; have Q3 := Lib.hid q3; clear q3; obtain ⟨hc3, hf3⟩ := bcell b3; (first | (have hz3 : W.heap.size < w3.heap.size := (by have := b3.size; (try simp at this); omega)) | (have hz3 : W.heap.size ≤ w3.heap.size := (by have := b3.size; (try simp at this); omega))); have O3 := Lib.hid o3; have B3 := Lib.hid b3; clear b3 o3)
            | (go_at_call 10; (with_reducible refine (C2.out _ (by first | assumption | exact And.left (by assumption))).mono ?_); rintro e w4 ⟨⟨a4, c4, rfl, o4, q4⟩, bb, b4⟩; have Q4 := Lib.hid q4; clear q4; obtain ⟨hc4, hf4⟩ := bcell b4; (first | (have hz4 : w3.heap.size < w4.heap.size := (by have := b4.size; (try simp at this); omega)) | (have hz4 : w3.heap.size ≤ w4.heap.size := (by have := b4.size; (try simp at this); omega))); have O4 := Lib.hid o4; have B4 := Lib.hid b4; clear b4 o4))
        all_goals
          go_wp2_with fail
          go_meet
          have N3 := Lib.hid (show ∀ b off, a3 = some ⟨b, off, none⟩ → b < w3.heap.size from fun b off e => (Q3.out b off e).2)
          have O3' := Lib.hid (show Ints w4 (.slice a3 vs.length c3) vs from O3.out.below (by first | exact B4.out | exact (((Below.refl _ w3).alloc (Nat.le_refl _) _).trans (B4.out.mono (by simp)))))
          refine ⟨_, a3, c3, a4, c4, rfl, ⟨?_, ?_, ?_, ?_⟩⟩
          · first
              | exact Box.new w4 25 _
              | (have hbx := ((((Box.new w3 25 #[.slice none 0 0, .int .i64 0, .slice none 0 0]).below B4.out (by simp)).set 0 (.slice a3 vs.length c3)).set 1 (.int .i64 z)).set 2 (.slice a4 bs.length c4); simpa using hbx)
              | (have hbW : Box (W.alloc (.cells #[.slice none 0 0, .int .i64 0, .slice none 0 0] 25)).drew W.heap.size 25 #[.slice none 0 0, .int .i64 0, .slice none 0 0] := Box.new W 25 _; have hbx := ((((hbW.below B3.out (by simp)).below B4.out hz3).set 0 (.slice a3 vs.length c3)).set 1 (.int .i64 z)).set 2 (.slice a4 bs.length c4); simpa using hbx)
          · first
              | exact O3'.out.below ((Below.refl _ w4).alloc (Nat.le_refl _) _)
              | exact ints_set (ints_set (ints_set O3'.out (by intro b off e; have := N3.out b off e; simp; omega) _) (by intro b off e; have := N3.out b off e; simp; omega) _) (by intro b off e; have := N3.out b off e; simp; omega) _
              | exact ints_set (ints_set (ints_set O3'.out (by intro b off e; have := Q3.out b off e; simp at this; simp; omega) _) (by intro b off e; have := Q3.out b off e; simp at this; simp; omega) _) (by intro b off e; have := Q3.out b off e; simp at this; simp; omega) _
          · first
              | exact O4.out.below ((Below.refl _ w4).alloc (Nat.le_refl _) _)
              | exact ints_set (ints_set (ints_set O4.out (by intro b off e; have := Q4.out b off e; simp at this; simp; omega) _) (by intro b off e; have := Q4.out b off e; simp at this; simp; omega) _) (by intro b off e; have := Q4.out b off e; simp at this; simp; omega) _
              | exact ints_set (ints_set (ints_set O4.out (by intro b off e; have := Q4.out b off e; simp; omega) _) (by intro b off e; have := Q4.out b off e; simp; omega) _) (by intro b off e; have := Q4.out b off e; simp; omega) _
          · repeat (first | assumption | refine Below.drew ?_ | refine Below.alloc ?_ (by first | exact bb.size | simp) _ | refine Below.setCell ?_ (by first | exact bb.size | (simp; done) | (simp; omega)) _)
      case rest =>
        obtain ⟨gb, a3, c3, a4, c4, rfl, hp⟩ := hcut
        have PX := Lib.hid hp.box
        have PL := Lib.hid hp.i1
        have PB := Lib.hid hp.i2
        have BC := Lib.hid hp.bel
        have p0 : wc.cell? ⟨gb, 0, none⟩ = some (.slice a3 vs.length c3) := by simpa using hp.box.cell 0
        have p1 : wc.cell? ⟨gb, 1, none⟩ = some (.int .i64 z) := by simpa using hp.box.cell 1
        have p2 : wc.cell? ⟨gb, 2, none⟩ = some (.slice a4 bs.length c4) := by simpa using hp.box.cell 2
        have hgb := hp.box.lt
        have hwc := hp.bel.size
        clear hp hb0 x0 x1 x2
        go_wp2_with (fail)
        refine (block_any size _ _ z vs bs _ PL.out PB.out hz0 hz1).mono ?_
        rintro e w5 ⟨v1, rfl, o5, b5⟩
        obtain ⟨_, x0, x1, x2⟩ := SIX.out w5 (BC.out.trans (b5.mono hwc))
        have hbl1 : (blkSpec size vs z bs).1.length ≤ 4096 := by
          rcases blkSpec_cases size vs z bs with ⟨h, _⟩ | ⟨b, h, _, hsz, _⟩
          · rw [h]; simp
          · rw [h]; simp only; omega
        have k5 := (ints_of_own o5 hbl1).1
        have PX5 := Lib.hid (PX.out.below b5 hgb)
        have s5 := b5.size
        have K5 := Lib.hid k5
        have PL5 := Lib.hid (PL.out.below b5)
        have PB5 := Lib.hid (PB.out.below b5)
        have BC5 := Lib.hid (BC.out.trans (b5.mono hwc))
        have hw5 := BC5.out.size
        clear o5 b5 k5 p0 p1 p2
        go_wp2_with (fail)
        refine (rblock_any size _ _ z vs bs _ (I1.out.below BC5.out) (I2.out.below BC5.out) hz0 hz1).mono ?_
        rintro e w6 ⟨v2, rfl, o6, b6⟩
        have k6 := (ints_of_own o6 hbl1).1
        have PX6 := Lib.hid (PX5.out.below b6 (by omega))
        have K5' := Lib.hid (K5.out.below b6)
        have K6 := Lib.hid k6
        have PL6 := Lib.hid (PL5.out.below b6)
        have PB6 := Lib.hid (PB5.out.below b6)
        have BC6 := Lib.hid (BC5.out.trans (b6.mono hw5))
        have hw6 := BC6.out.size
        have s6 := b6.size
        clear o6 b6 k6 x0 x1 x2 hbl1
        generalize (blkSpec size vs z bs).1 = L at *
        generalize (blkSpec size vs z bs).2 = er at *
        obtain ⟨al, cl, rfl⟩ := K5'.out.form
        obtain ⟨al', cl', rfl⟩ := K6.out.form
        have NIN := Lib.hid (show ∀ w', Below w6.heap.size w6 w' → (Below w6.heap.size w6 w' ∧ w'.cell? ⟨w.heap.size, 0, none⟩ = some (.slice a1 vs.length cap1) ∧ w'.cell? ⟨w.heap.size, 1, none⟩ = some (.int .i64 z) ∧ w'.cell? ⟨w.heap.size, 2, none⟩ = some (.slice a2 bs.length cap2)
            ∧ w'.cell? ⟨gb, 0, none⟩ = some (.slice a3 vs.length c3) ∧ w'.cell? ⟨gb, 1, none⟩ = some (.int .i64 z) ∧ w'.cell? ⟨gb, 2, none⟩ = some (.slice a4 bs.length c4)) from by
          intro w' hb
          obtain ⟨_, q0, q1, q2⟩ := SIX.out w' (BC6.out.trans (hb.mono hw6))
          have e1 := PX6.out.below hb (by omega)
          exact ⟨hb, q0, q1, q2, by simpa using e1.cell 0, by simpa using e1.cell 1, by simpa using e1.cell 2⟩)
        have E14 := Lib.hid (show ∀ w', Below w6.heap.size w6 w' → Calls Try.prog 14 #[.slice al L.length cl, .slice al' L.length cl'] w' fun e w'' => e = .returned (.bool true) ∧ Below w6.heap.size w6 w'' from fun w' hb =>
          (equalInts_same _ _ L w' (K5'.out.below hb) (K6.out.below hb)).mono fun e w'' ⟨he, hb2⟩ => ⟨he, hb.trans (hb2.mono hb.size)⟩)
        have E17 := Lib.hid (show ∀ w', Below w6.heap.size w6 w' → Calls Try.prog 17 #[.agg #[.slice a3 vs.length c3, .int .i64 z, .slice a4 bs.length c4]] w' fun e w'' => e = .returned (.int .i64 (onesL vs)) ∧ Below w6.heap.size w6 w'' from fun w' hb =>
          (ones_any 17 (.inl rfl) _ z a4 bs.length c4 vs w' (PL6.out.below hb)).mono fun e w'' ⟨he, hb2⟩ => ⟨he, hb.trans (hb2.mono hb.size)⟩)
        have E20 := Lib.hid (show ∀ w', Below w6.heap.size w6 w' → Calls Try.prog 20 #[.agg #[.slice a1 vs.length cap1, .int .i64 z, .slice a2 bs.length cap2]] w' fun e w'' => e = .returned (.int .i64 (onesL vs)) ∧ Below w6.heap.size w6 w'' from fun w' hb =>
          (ones_any 20 (.inr rfl) _ z a2 bs.length cap2 vs w' (I1.out.below (BC6.out.trans (hb.mono hw6)))).mono fun e w'' ⟨he, hb2⟩ => ⟨he, hb.trans (hb2.mono hb.size)⟩)
        have E13 := Lib.hid (show ∀ w', Below w6.heap.size w6 w' → Calls Try.prog 13 #[.agg #[.slice a3 vs.length c3, .int .i64 z, .slice a4 bs.length c4], .agg #[.slice a1 vs.length cap1, .int .i64 z, .slice a2 bs.length cap2]] w' fun e w'' => e = .returned (.bool true) ∧ Below w6.heap.size w6 w'' from fun w' hb =>
          (equalRuns_same _ _ _ _ z vs bs w' (PL6.out.below hb) (PB6.out.below hb) (I1.out.below (BC6.out.trans (hb.mono hw6))) (I2.out.below (BC6.out.trans (hb.mono hw6)))).mono fun e w'' ⟨he, hb2⟩ => ⟨he, hb.trans (hb2.mono hb.size)⟩)
        have E15 := Lib.hid (show ∀ w', Below w6.heap.size w6 w' → Calls Try.prog 15 #[] w' fun e w'' => e = .returned (.bool true) ∧ Below w6.heap.size w6 w'' from fun w' hb =>
          (awake_yes w').mono fun e w'' ⟨he, hb2⟩ => ⟨he, hb.trans (hb2.mono hb.size)⟩)
        generalize onesL vs = o at *
        have hb0 := Below.refl w6.heap.size w6
        obtain ⟨_, x0, x1, x2, y0, y1, y2⟩ := NIN.out w6 hb0
        have e1 : (er == er) = true := by simp
        have e2 : ((o : Int) == (o : Int)) = true := by simp
        go_wp2_with (fail)
        go_region_held3 (fun w' => Below w6.heap.size w6 w' ∧ w'.cell? ⟨w.heap.size, 0, none⟩ = some (.slice a1 vs.length cap1) ∧ w'.cell? ⟨w.heap.size, 1, none⟩ = some (.int .i64 z) ∧ w'.cell? ⟨w.heap.size, 2, none⟩ = some (.slice a2 bs.length cap2)
            ∧ w'.cell? ⟨gb, 0, none⟩ = some (.slice a3 vs.length c3) ∧ w'.cell? ⟨gb, 1, none⟩ = some (.int .i64 z) ∧ w'.cell? ⟨gb, 2, none⟩ = some (.slice a4 bs.length c4))
          (exact NIN.out _ (by repeat (first | assumption | exact And.left (by assumption) | refine Below.drew ?_)))
          (first
            | (go_at_call 14; (with_reducible refine (E14.out _ (by first | assumption | exact And.left (by assumption))).mono ?_); rintro e w8 ⟨rfl, bb⟩)
            | (go_at_call 17; (with_reducible refine (E17.out _ (by first | assumption | exact And.left (by assumption))).mono ?_); rintro e w8 ⟨rfl, bb⟩)
            | (go_at_call 20; (with_reducible refine (E20.out _ (by first | assumption | exact And.left (by assumption))).mono ?_); rintro e w8 ⟨rfl, bb⟩)
            | (go_at_call 13; (with_reducible refine (E13.out _ (by first | assumption | exact And.left (by assumption))).mono ?_); rintro e w8 ⟨rfl, bb⟩)
            | (go_at_call 15; (with_reducible refine (E15.out _ (by first | assumption | exact And.left (by assumption))).mono ?_); rintro e w8 ⟨rfl, bb⟩))
        all_goals
          have BF := Lib.hid (HB0.out.trans ((BC6.out.trans (bb.mono hw6)).mono (by omega)))
          go_wp2_with (fail)
          go_ret
          exact ⟨rfl, BF.out⟩

/-- A field that is a slice of ints, opened. -/
theorem field_row {H : Type} {enc : TypeId × Value → H} {W : World} {base : Nat} {sp : Nat → Bool} {held : Bool} {fuel : Nat} {c : Value} {y : DataW H × List MemPlace} (hf : DataW.trod enc Try.prog W base sp held fuel 22 [c] = some y) (hall : ∀ b, sp b = true) :
    ∃ a len cap zs, c = .slice a len cap ∧ IsRow .i64 W a len cap zs := by
  rcases open_ints Try.underlying22 Try.underlying3 (by kernel_rfl) hf with ⟨hcs, _⟩ | ⟨x, l, c', zs, hcs, _, hl, hm, hz, _, hcell, hwz⟩
  · simp at hcs
    exact ⟨none, 0, 0, [], hcs, .inl ⟨rfl, rfl, rfl, rfl⟩⟩
  · simp at hcs
    exact ⟨some x, l, c', zs, hcs, .inr ⟨_, rfl, hl, hm, by simpa [hall] using hz, hcell, hwz⟩⟩

set_option maxRecDepth 100000 in
theorem lifted (os : Os) (started : os.Started) (H : Type) (enc : TypeId × Value → H) :
    ReturnsInHanded {} Try.checked os 8 .any (Rows.runsBlockSpec.pre6 enc Try.prog Try.f8 Rows.runsBlockRow.domain false) (Rows.runsBlockSpec.post enc Try.prog Try.f8 false true false false) := by
  refine returnsInHanded_of_change (C := Try.checked) own started (by kernel_rfl) Try.func8
    (ChangeSpec.witness6 (enc := enc) (C := Try.checked) false ⟨#[], #[.int .i64 0, .agg #[.slice none 0 0, .int .i64 0, .slice none 0 0]], []⟩ 8 (by kernel_rfl) (by kernel_rfl) (by kernel_rfl) (by kernel_rfl)) ?_
  intro W base args ds gs before hval0 hW hcnd _
  have hval : ∀ (j : Nat) t v, Try.f8.params[j]? = some t → args[j]? = some v → Value.okWide Try.prog W .any base t v := hval0
  have hW' := hW
  obtain ⟨p, q, hA0, hV, rfl, hfz, hnd⟩ := hW
  have hA : DataW.TrodAll enc Try.prog W 0 (fun _ => true) true Try.f8.params.toList args.toList ds p := hA0
  rw [Try.params8] at hA hval
  obtain ⟨v0, vs0, d0, ds0, p0, q0, hargs, rfl, rfl, h0, r0⟩ := trodAll_cons hA
  obtain ⟨v1, vs1, d1, ds1, p1, q1, rfl, rfl, rfl, h1, r1⟩ := trodAll_cons r0
  obtain ⟨rfl, rfl, rfl⟩ := trodAll_nil r1
  obtain rfl : args = #[v0, v1] := by cases args; simp_all
  obtain ⟨rfl, rfl⟩ := trodVars_none hV
  obtain ⟨a0, rfl, rfl, rfl, w0⟩ := open_int Try.underlying3 (hval 0 3 v0 rfl rfl) h0
  have k1 := h1
  have lt1 : ∀ x ∈ p1, x.block < W.heap.size := by obtain ⟨m, hm⟩ := k1; exact DataW.trod_lt m _ _ _ hm
  obtain ⟨c0, c1, c2, y0, y1, y2, m, rfl, hd, hp, hy0, hy1, hy2⟩ := open_agg3 Try.underlying25 (by kernel_rfl) cells25 (hval 1 25 v1 rfl rfl) h1
  obtain ⟨aL, lenL, capL, zL, rfl, rL⟩ := field_row hy0 (fun _ => rfl)
  obtain ⟨aB, lenB, capB, zB, rfl, rB⟩ := field_row hy2 (fun _ => rfl)
  obtain ⟨z, e1, _, wz⟩ := DataW.trod_int Try.underlying3 hy1
  simp at e1
  subst e1
  clear hA0 hval0
  refine (walk a0 z aL aB lenL capL lenB capB zL zB W w0 rL wz rB).mono fun e W' ⟨he, bel⟩ => ?_
  subst he
  exact ⟨_, rfl, _, _, _, [], _, [], hW', trodAll_mk1 (shut_bool Try.underlying4 _), (trodAll_cons_mk (shut_int Try.underlying3 w0) (trodAll_cons_mk (Below.trod laidOut (by kernel_rfl) (of_decide_eq_true (by kernel_rfl)) k1 bel lt1) trodAll_mk0)), rfl, bel.frame _, fun h => by cases h⟩

theorem over : Rows.runsBlockRow.holds Try.pinned (OpenSpec.ofChange Rows.runsBlockSpec) :=
  OpenClaim.holds_of_wide 8 Try.f8 rfl rfl rfl rfl rfl rfl rfl ⟨rfl, rfl, rfl, rfl, rfl⟩ rfl rfl rfl rfl rfl (by kernel_rfl) Try.func8 (by kernel_rfl)
    (of_decide_eq_true (by kernel_rfl)) (by unfold Func.isWrapper; first | (rw [if_pos (by decide +kernel)]; kernel_rfl) | (rw [if_neg (by decide +kernel)]; exact ⟨rfl, rfl⟩))
    (fun os started H enc _ => lifted os started H enc)

/-- The statement. -/
theorem proved : Rows.RunsBlockSaid := over
#print axioms proved
end Go.Proofs.Ytcaglhodkdfncaa.runsBlock
