/- What runs.Block accepts is what runs.Of returns for its result, for any size and any levels and runs; no conditions. -/
import Derived.Test.YtcaglhodkdfncaaRows
import Derived.WalkKit
import Derived.ProofKit
import Derived.OpenShut
import Derived.ShutString
import Derived.ChangeOld
import Derived.Below
import Derived.Lib.SmallJoins
import Derived.Test.YtcaglhodkdfncaaBad
import Derived.Test.YtcaglhodkdfncaaBlockBad
namespace Go.Proofs.Ytcaglhodkdfncaa.runsThere
open Go.ChangeShapes Go.WideShapes Go.ChangeAt Go.RowKit Go.Joins
set_option linter.unusedVariables false

theorem own : ownKnob Try.prog.godebug = none := by kernel_rfl
theorem laidOut : laidOutB Try.prog = true := by kernel_rfl
theorem cells25 : Try.prog.cellsOf 25 = 3 := by kernel_rfl

theorem mem_lev : ∀ (l : List Int) (v : Int), v ∈ l → v = 0 ∨ v ∈ lev l
  | [], _, h => by simp at h
  | x :: l, v, h => by
    by_cases hx : x = 0
    · subst hx
      rw [lev_zero]
      rcases List.mem_cons.1 h with h | h
      · exact .inl h
      · exact mem_lev l v h
    · rw [lev_cons hx]
      rcases List.mem_cons.1 h with h | h
      · subst h; exact .inr (by simp)
      · rcases mem_lev l v h with h | h
        · exact .inl h
        · exact .inr (by simp [h])

/-- What Block accepts, and what it refuses. -/
theorem blkSpec_cases (size : Int) (vs : List Int) (z : Int) (bs : List Int) :
    ((blkSpec size vs z bs).1 = [] ∧ ((blkSpec size vs z bs).2 = 2 ∨ (blkSpec size vs z bs).2 = 3 ∨ (blkSpec size vs z bs).2 = 4)) ∨
    (∃ b, blkSpec size vs z bs = (b, 0) ∧ (b.length : Int) = size ∧ (b.length = 4 ∨ b.length = 15 ∨ b.length = 16) ∧ Fits b ∧ lev b = vs ∧ zer b = z ∧ bef b = bs) := by
  unfold blkSpec
  split
  · rename_i hs
    split
    · rename_i hf
      split
      · rename_i hp
        obtain ⟨h1, h2, h3, h4⟩ := of_blk hp
        refine .inr ⟨_, rfl, by rw [h1]; omega, by rw [h1]; omega, fun v hv => ?_, h2, h3, h4⟩
        rcases mem_lev _ v hv with h | h
        · subst h; omega
        · rw [h2] at h; exact hf v h
      · exact .inl ⟨rfl, by simp⟩
    · exact .inl ⟨rfl, by simp⟩
  · exact .inl ⟨rfl, by simp⟩

theorem wf_bd {z : Int} (h : (Lit.int .i64 z).wf = true) : -9223372036854775808 ≤ z ∧ z ≤ 9223372036854775807 := bounds_i64 h

theorem ints_len0 {w : World} {v : Value} (h : Ints w v []) : ∃ a c, v = .slice a 0 c := h.form

set_option maxHeartbeats 2000000 in
theorem walk (size z : Int) (a1 a2 : Option Addr) (len1 cap1 len2 cap2 : Nat) (z1 z2 : List Int) (w : World) (wz : (Lit.int .i64 size).wf = true) (r1 : IsRow .i64 w a1 len1 cap1 z1) (wz' : (Lit.int .i64 z).wf = true) (r2 : IsRow .i64 w a2 len2 cap2 z2) :
    Calls Try.prog 7 #[.int .i64 size, .agg #[.slice a1 len1 cap1, .int .i64 z, .slice a2 len2 cap2]] w fun e w' => e = .returned (.bool true) ∧ Below w.heap.size w w' := by
  obtain ⟨hz0, hz1⟩ := wf_bd wz'
  by_cases h1 : 20 < len1
  · have hle1 : (20 : Int) < (len1 : Int) := by omega
    have hb1 : len1 ≤ 9223372036854775807 := by
      rcases r1 with ⟨_, rfl, _⟩ | ⟨x, _, h1, h2, _⟩
      · omega
      · simp only [maxLen] at h2; omega
    clear wz wz' r1 r2
    go_enter Try.func7, Try.ntmps7
    go_wp2
    go_ret
    exact ⟨rfl, (Below.refl _ w).alloc (Nat.le_refl _) _⟩
  · by_cases h2 : 20 < len2
    · have hb2 : len2 ≤ 9223372036854775807 := by
        rcases r2 with ⟨_, rfl, _⟩ | ⟨x, _, h1, h2, _⟩
        · omega
        · simp only [maxLen] at h2; omega
      have hle1 : ¬ (20 : Int) < (len1 : Int) := by omega
      have hle2 : (20 : Int) < (len2 : Int) := by omega
      clear wz wz' r1 r2
      go_enter Try.func7, Try.ntmps7
      go_wp2
      go_ret
      exact ⟨rfl, (Below.refl _ w).alloc (Nat.le_refl _) _⟩
    · have i1 := ints_of_row r1 (by omega)
      have i2 := ints_of_row r2 (by omega)
      obtain ⟨vs, hvs⟩ : ∃ vs, vs = z1.take len1 := ⟨_, rfl⟩
      obtain ⟨bs, hbs⟩ : ∃ bs, bs = z2.take len2 := ⟨_, rfl⟩
      have hl1 : vs.length = len1 := by rw [hvs]; exact row_len r1
      have hl2 : bs.length = len2 := by rw [hbs]; exact row_len r2
      rw [← hvs] at i1
      rw [← hbs] at i2
      subst hl1
      subst hl2
      have hb0 : Below w.heap.size w (w.alloc (.cells #[.slice a1 vs.length cap1, .int .i64 z, .slice a2 bs.length cap2] 25)) := (Below.refl _ w).alloc (Nat.le_refl _) _
      have X0 := Box.new w 25 #[.slice a1 vs.length cap1, .int .i64 z, .slice a2 bs.length cap2]
      have HX0 := Lib.hid X0
      have I1 := Lib.hid (i1.below hb0)
      have I2 := Lib.hid (i2.below hb0)
      have HB0 := Lib.hid hb0
      have hle1 : ¬ (20 : Int) < (vs.length : Int) := by omega
      have hle2 : ¬ (20 : Int) < (bs.length : Int) := by omega
      clear hvs hbs i1 i2 hb0 X0 wz wz' r1 r2
      have HC := Lib.hid (blkSpec_cases size vs z bs)
      go_enter Try.func7, Try.ntmps7
      go_wp2_with (fail)
      refine (block_any size _ _ z vs bs _ I1.out I2.out hz0 hz1).mono ?_
      rintro e w1 ⟨v1, rfl, o1, b1⟩
      have HB1 := Lib.hid b1
      have X1 : Box w1 w.heap.size 25 _ := HX0.out.below b1 (by simp)
      have J1 := Lib.hid (I1.out.below b1)
      have J2 := Lib.hid (I2.out.below b1)
      have HX1 := Lib.hid X1
      clear X1 b1
      rcases HC.out with ⟨hnil, herr⟩ | ⟨b, hspec, hsize, hsz, hf, hlev, hzer, hbef⟩
      · rw [hnil] at o1
        have k1 := (ints_of_own o1 (by simp)).1
        obtain ⟨ak, ck, rfl⟩ := ints_len0 k1
        have he : ((blkSpec size vs z bs).2 != 0) = true := by rcases herr with h | h | h <;> rw [h] <;> rfl
        generalize (blkSpec size vs z bs).2 = er at *
        clear o1 k1 hnil herr
        go_wp2_with (fail)
        refine (awake_yes _).mono ?_
        rintro e w2 ⟨rfl, b2⟩
        have HB2 := Lib.hid b2
        clear b2
        go_wp2_with (fail)
        go_ret
        have s1 := HB1.out.size
        simp at s1
        exact ⟨rfl, HB0.out.trans ((HB1.out.mono (by simp)).trans (HB2.out.mono (by omega)))⟩
      · rw [hspec] at o1 ⊢
        simp only at o1 ⊢
        have k1 := (ints_of_own o1 (by omega)).1
        obtain ⟨ak, ck, rfl⟩ := k1.form
        have K1 := Lib.hid k1
        have HF := Lib.hid hf
        have HL := Lib.hid hlev
        have HZ := Lib.hid hzer
        have HBF := Lib.hid hbef
        have HSZ := Lib.hid hsz
        have he : ((b.length : Int) == size) = true := by simp [hsize]
        have hbl : b.length ≤ 16 := by omega
        have s1 := HB1.out.size
        simp at s1
        clear o1 k1 hf hlev hzer hbef hsz hspec hsize
        go_wp2_with (fail)
        refine (of_yes _ b _ K1.out HF.out HSZ.out).mono ?_
        rintro e w2 ⟨sL, sB, rfl, iL, iB, b2⟩
        rw [HL.out] at iL
        rw [HBF.out] at iB
        rw [HZ.out]
        obtain ⟨aL, cL, rfl⟩ := iL.form
        obtain ⟨aB, cB, rfl⟩ := iB.form
        have HB2 := Lib.hid b2
        have s2 := b2.size
        have X2 : Box w2 w.heap.size 25 _ := HX1.out.below b2 (by omega)
        have hb3 : Below w2.heap.size w2 (w2.alloc (.cells #[.slice aL vs.length cL, .int .i64 z, .slice aB bs.length cB] 25)) := (Below.refl _ w2).alloc (Nat.le_refl _) _
        have M1 := Lib.hid ((J1.out.below b2).below hb3)
        have M2 := Lib.hid ((J2.out.below b2).below hb3)
        have N1 := Lib.hid (iL.below hb3)
        have N2 := Lib.hid (iB.below hb3)
        have HB3 := Lib.hid hb3
        have x0 : w2.cell? ⟨w.heap.size, 0, none⟩ = some (.slice a1 vs.length cap1) := by simpa using X2.cell 0
        have x1 : w2.cell? ⟨w.heap.size, 1, none⟩ = some (.int .i64 z) := by simpa using X2.cell 1
        have x2 : w2.cell? ⟨w.heap.size, 2, none⟩ = some (.slice a2 bs.length cap2) := by simpa using X2.cell 2
        have hlt2 : w.heap.size < w2.heap.size := X2.lt
        clear b2 iL iB hb3 X2
        go_wp2_with (fail)
        refine (equalRuns_same _ _ _ _ z vs bs _ N1.out N2.out M1.out M2.out).mono ?_
        rintro e w3 ⟨rfl, b3⟩
        have HB4 := Lib.hid b3
        clear b3
        go_wp2_with (fail)
        refine (awake_yes _).mono ?_
        rintro e w4 ⟨rfl, b4⟩
        have HB5 := Lib.hid b4
        clear b4
        go_wp2_with (fail)
        go_ret
        have s3 := HB3.out.size
        have s4 := HB4.out.size
        simp at s3 s4
        exact ⟨rfl, HB0.out.trans ((HB1.out.mono (by simp)).trans ((HB2.out.mono (by omega)).trans ((HB3.out.mono (by omega)).trans ((HB4.out.mono (by simp; omega)).trans (HB5.out.mono (by omega))))))⟩

/-- A field that is a slice of ints, opened. -/
theorem field_row {H : Type} {enc : TypeId × Value → H} {W : World} {base : Nat} {sp : Nat → Bool} {held : Bool} {fuel : Nat} {c : Value} {y : DataW H × List MemPlace} (hf : DataW.trod enc Try.prog W base sp held fuel 22 [c] = some y) (hall : ∀ b, sp b = true) :
    ∃ a len cap zs, c = .slice a len cap ∧ IsRow .i64 W a len cap zs := by
  rcases open_ints Try.underlying22 Try.underlying3 (by kernel_rfl) hf with ⟨hcs, _⟩ | ⟨x, l, c', zs, hcs, _, hl, hm, hz, _, hcell, hwz⟩
  · simp at hcs
    exact ⟨none, 0, 0, [], hcs, .inl ⟨rfl, rfl, rfl, rfl⟩⟩
  · simp at hcs
    exact ⟨some x, l, c', zs, hcs, .inr ⟨_, rfl, hl, hm, by simpa [hall] using hz, hcell, hwz⟩⟩

set_option maxRecDepth 100000 in
theorem lifted (os : Os) (started : os.Started) (H : Type) (enc : TypeId × Value → H) :
    ReturnsInHanded {} Try.checked os 7 .any (Rows.runsThereSpec.pre6 enc Try.prog Try.f7 Rows.runsThereRow.domain false) (Rows.runsThereSpec.post enc Try.prog Try.f7 false true false false) := by
  refine returnsInHanded_of_change (C := Try.checked) own started (by kernel_rfl) Try.func7
    (ChangeSpec.witness6 (enc := enc) (C := Try.checked) false ⟨#[], #[.int .i64 0, .agg #[.slice none 0 0, .int .i64 0, .slice none 0 0]], []⟩ 8 (by kernel_rfl) (by kernel_rfl) (by kernel_rfl) (by kernel_rfl)) ?_
  intro W base args ds gs before hval0 hW hcnd _
  have hval : ∀ (j : Nat) t v, Try.f7.params[j]? = some t → args[j]? = some v → Value.okWide Try.prog W .any base t v := hval0
  have hW' := hW
  obtain ⟨p, q, hA0, hV, rfl, hfz, hnd⟩ := hW
  have hA : DataW.TrodAll enc Try.prog W 0 (fun _ => true) true Try.f7.params.toList args.toList ds p := hA0
  rw [Try.params7] at hA hval
  obtain ⟨v0, vs0, d0, ds0, p0, q0, hargs, rfl, rfl, h0, r0⟩ := trodAll_cons hA
  obtain ⟨v1, vs1, d1, ds1, p1, q1, rfl, rfl, rfl, h1, r1⟩ := trodAll_cons r0
  obtain ⟨rfl, rfl, rfl⟩ := trodAll_nil r1
  obtain rfl : args = #[v0, v1] := by cases args; simp_all
  obtain ⟨rfl, rfl⟩ := trodVars_none hV
  obtain ⟨a0, rfl, rfl, rfl, w0⟩ := open_int Try.underlying3 (hval 0 3 v0 rfl rfl) h0
  have k1 := h1
  have lt1 : ∀ x ∈ p1, x.block < W.heap.size := by obtain ⟨m, hm⟩ := k1; exact DataW.trod_lt m _ _ _ hm
  obtain ⟨c0, c1, c2, y0, y1, y2, m, rfl, hd, hp, hy0, hy1, hy2⟩ := open_agg3 Try.underlying25 (by kernel_rfl) cells25 (hval 1 25 v1 rfl rfl) h1
  obtain ⟨aL, lenL, capL, zL, rfl, rL⟩ := field_row hy0 (fun _ => rfl)
  obtain ⟨aB, lenB, capB, zB, rfl, rB⟩ := field_row hy2 (fun _ => rfl)
  obtain ⟨z, e1, _, wz⟩ := DataW.trod_int Try.underlying3 hy1
  simp at e1
  subst e1
  clear hA0 hval0
  refine (walk a0 z aL aB lenL capL lenB capB zL zB W w0 rL wz rB).mono fun e W' ⟨he, bel⟩ => ?_
  subst he
  exact ⟨_, rfl, _, _, _, [], _, [], hW', trodAll_mk1 (shut_bool Try.underlying4 _), (trodAll_cons_mk (shut_int Try.underlying3 w0) (trodAll_cons_mk (Below.trod laidOut (by kernel_rfl) (of_decide_eq_true (by kernel_rfl)) k1 bel lt1) trodAll_mk0)), rfl, bel.frame _, fun h => by cases h⟩

theorem over : Rows.runsThereRow.holds Try.pinned (OpenSpec.ofChange Rows.runsThereSpec) :=
  OpenClaim.holds_of_wide 7 Try.f7 rfl rfl rfl rfl rfl rfl rfl ⟨rfl, rfl, rfl, rfl, rfl⟩ rfl rfl rfl rfl rfl (by kernel_rfl) Try.func7 (by kernel_rfl)
    (of_decide_eq_true (by kernel_rfl)) (by unfold Func.isWrapper; first | (rw [if_pos (by decide +kernel)]; kernel_rfl) | (rw [if_neg (by decide +kernel)]; exact ⟨rfl, rfl⟩))
    (fun os started H enc _ => lifted os started H enc)

/-- The statement. -/
theorem proved : Rows.RunsThereSaid := over
#print axioms proved
end Go.Proofs.Ytcaglhodkdfncaa.runsThere
