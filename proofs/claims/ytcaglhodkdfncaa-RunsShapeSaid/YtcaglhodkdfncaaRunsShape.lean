/- For every block of 4, 15 or 16 coefficients that some numbers give, the levels that runs.Of returns are the coefficients that are not 0, from the last one on, and Zeros and Before count the zeros before them; no conditions. -/
import Derived.Test.YtcaglhodkdfncaaRows
import Derived.WalkKit
import Derived.ProofKit
import Derived.OpenShut
import Derived.ShutString
import Derived.ChangeOld
import Derived.Below
import Derived.Test.YtcaglhodkdfncaaRow
import Derived.Test.YtcaglhodkdfncaaBad
namespace Go.Proofs.Ytcaglhodkdfncaa.runsShape
open Go.ChangeShapes Go.WideShapes Go.ChangeAt Go.RowKit
open Go.ChangeMaps (open_string shut_string)
set_option linter.unusedVariables false

theorem own : ownKnob Try.prog.godebug = none := by kernel_rfl
theorem laidOut : laidOutB Try.prog = true := by kernel_rfl

/-! ### The walk -/
theorem fits_of_16 {zs : List Int} (h : Fits16 zs) : Fits zs := fun v hv => by have := h v hv; omega

theorem lev_pre (l : List Int) : ∀ k, lev (l.drop k) <+: lev l := by
  induction l with
  | nil => intro k; simp
  | cons v l ih =>
    intro k
    cases k with
    | zero => simp
    | succ k =>
      rw [List.drop_succ_cons]
      refine (ih k).trans ?_
      by_cases hv : v = 0
      · subst hv; rw [lev_zero]; exact List.prefix_refl _
      · rw [lev_cons hv]; exact List.prefix_append _ _

theorem bef_pre (l : List Int) : ∀ k, bef (l.drop k) <+: bef l := by
  induction l with
  | nil => intro k; simp
  | cons v l ih =>
    intro k
    cases k with
    | zero => simp
    | succ k =>
      rw [List.drop_succ_cons]
      refine (ih k).trans ?_
      by_cases hv : v = 0
      · subst hv; rw [bef_zero]; exact List.prefix_refl _
      · by_cases hl : lev l = []
        · rw [bef_cons_first hv l hl]; exact List.prefix_refl _
        · rw [bef_cons_next hv l hl]; exact List.prefix_append _ _

/-- Where the first level of a rest stands. -/
theorem pos_of (l : List Int) : ∀ k, k ≤ l.length → lev (l.drop k) ≠ [] → (k : Int) + gap (l.drop k) = zer l - (bef (l.drop k)).sum + (lev l).length - (lev (l.drop k)).length
  | 0, _, h => by
    have := zer_gap l h
    simp; omega
  | k + 1, hk, h => by
    have hd : l.drop k = l[k]'(by omega) :: l.drop (k + 1) := List.drop_eq_getElem_cons (by omega)
    generalize l[k]'(by omega) = v at hd
    have ih := pos_of l k (by omega)
    rw [hd] at ih
    by_cases hv : v = 0
    · subst hv
      rw [lev_zero, gap_zero, bef_zero] at ih
      have := ih h
      omega
    · rw [lev_cons hv, gap_cons hv, bef_cons_next hv _ h] at ih
      have := ih (by simp)
      simp at this
      omega

/-- What the loop reads at a coefficient that is not 0. -/
theorem shape_at (l : List Int) (j : Nat) (hj : j < l.length) (v : Int) (hv : l[j]?.getD 0 = v) (h0 : v ≠ 0) :
    (lev (l.drop j)).length = (lev (l.drop (j + 1))).length + 1 ∧ (lev (l.drop (j + 1))).length < (lev l).length ∧ (lev l)[(lev (l.drop (j + 1))).length]?.getD 0 = v ∧
      (j : Int) = zer l - ((bef l).take (lev (l.drop (j + 1))).length).sum + (lev l).length - 1 - (lev (l.drop (j + 1))).length := by
  have hd : l.drop j = v :: l.drop (j + 1) := by
    rw [List.drop_eq_getElem_cons hj]
    have : l[j] = v := by simpa [hj] using hv
    rw [this]
  have e1 : lev (l.drop j) = lev (l.drop (j + 1)) ++ [v] := by rw [hd, lev_cons h0]
  have hp := lev_pre l j
  rw [e1] at hp
  obtain ⟨t, ht⟩ := hp
  have hlen : (lev (l.drop (j + 1))).length < (lev l).length := by rw [← ht]; simp
  refine ⟨by rw [e1]; simp, hlen, by rw [← ht]; simp, ?_⟩
  have hpos := pos_of l j (by omega) (by rw [e1]; simp)
  have hg : gap (l.drop j) = 0 := by rw [hd, gap_cons h0]
  obtain ⟨u, hu⟩ := bef_pre l j
  have hbl := bef_length (l.drop j)
  have htk : (bef l).take (lev (l.drop (j + 1))).length = bef (l.drop j) := by
    rw [← hu]
    have : (bef (l.drop j)).length = (lev (l.drop (j + 1))).length := by rw [hbl, e1]; simp
    rw [← this]; simp
  rw [htk]
  rw [hg, e1] at hpos
  simp at hpos
  omega

set_option maxRecDepth 100000 in
set_option maxHeartbeats 8000000 in
theorem walk (a0 : Option Addr) (len0 cap0 : Nat) (z0 : List Int) (a1 : Int) (w : World) (w0 : IsRow .i16 w a0 len0 cap0 z0) (w1 : (Lit.int .u8 a1).wf = true) :
    Calls Try.prog 4 #[.slice a0 len0 cap0, .int .u8 a1] w fun e w' => e = .returned (.bool true) ∧ Below w.heap.size w w' := by
  have hlenm : len0 ≤ 9223372036854775807 := by
    rcases w0 with ⟨_, rfl, _⟩ | ⟨x, _, h1, h2, _⟩
    · omega
    · simp only [maxLen] at h2; omega
  have W0 := Lib.hid w0
  have W1 := Lib.hid w1
  clear w0 w1
  go_enter Try.func4, Try.ntmps4
  go_wp2_with (fail)
  refine (lsized a0 len0 cap0 z0 a1 _ W0.out hlenm W1.out).mono ?_
  rintro e w1 ⟨v1, zs, rfl, o1, hsz, hf16, b1⟩
  have hl16 : zs.length ≤ 16 := by omega
  have I1 := (ints_of_own o1 (by omega)).1
  obtain ⟨a1', c1', rfl⟩ := I1.form
  have J1 := Lib.hid I1
  have B1 := Lib.hid b1
  have HSZ := Lib.hid hsz
  have HF := Lib.hid (fits_of_16 hf16)
  clear o1 I1 b1 hsz hf16
  go_wp2_with (fail)
  refine (of_yes _ zs _ J1.out HF.out HSZ.out).mono ?_
  rintro e w2 ⟨sL, sB, rfl, iL, iB, b2⟩
  obtain ⟨aL, cL, rfl⟩ := iL.form
  obtain ⟨aB, cB, rfl⟩ := iB.form
  have hb3 : Below w2.heap.size w2 (w2.alloc (.cells #[.slice aL (lev zs).length cL, .int .i64 (zer zs), .slice aB (bef zs).length cB] 25)) := (Below.refl _ w2).alloc (Nat.le_refl _) _
  have J2 := Lib.hid ((J1.out.below b2).below hb3)
  have A2 := Lib.hid (iL.below hb3)
  have E2 := Lib.hid (iB.below hb3)
  have B2 := Lib.hid b2
  have B3 := Lib.hid hb3
  have X3 := Lib.hid (Box.new w2 25 #[.slice aL (lev zs).length cL, .int .i64 (zer zs), .slice aB (bef zs).length cB])
  have hz0 := zer_nonneg zs
  have hz1 : zer zs ≤ 16 := by have := (poss_of zs).z1; omega
  have hll := lev_length_le zs
  have hbl := bef_length zs
  have hbn := Lib.hid (bef_nonneg zs)
  have hsum : (bef zs).sum ≤ 16 := by have := (poss_of zs).sum; omega
  have HBL := Lib.hid hbl
  have hb16 : (bef zs).length ≤ 16 := by omega
  have hmx : (if 1 < ((lev zs).length : Int) then ((lev zs).length : Int) - 1 else 0) = ((bef zs).length : Int) := by rw [hbl]; split <;> omega
  have hnn : (((bef zs).length : Int) != ((bef zs).length : Int)) = false := by simp
  have HX0 := X3.out
  have x1 : (w2.alloc (.cells #[.slice aL (lev zs).length cL, .int .i64 (zer zs), .slice aB (bef zs).length cB] 25)).cell? ⟨w2.heap.size, 1, none⟩ = some (.int .i64 (zer zs)) := by simp
  clear b2 iL iB hb3 hbl
  go_wp2_with (fail)
  go_quiet (fail)
  go_wp2
  clear hmx hnn x1 HX0
  go_loopw [8, 9, 10] (fun at' left i wr => ∃ (k : Nat), k ≤ zs.length ∧ i = .int .i64 ((k : Int) - 1) ∧ at' = .int .i64 ((lev (zs.drop k)).length : Int) ∧ left = .int .i64 (zer zs - ((bef zs).take (lev (zs.drop k)).length).sum) ∧ Below (w2.heap.size + 1) (w2.alloc (.cells #[.slice aL (lev zs).length cL, .int .i64 (zer zs), .slice aB (bef zs).length cB] 25)) wr) (fun _ _ i _ => (intOf i + 1).toNat)
  case atStart => exact ⟨zs.length, Nat.le_refl _, rfl, by simp [lev_nil], by simp [lev_nil], (Below.refl _ _).drewN _⟩
  case round =>
    obtain ⟨k, hk, rfl, rfl, rfl, hB⟩ := hrel
    have hBB : Below (w2.alloc (.cells #[.slice aL (lev zs).length cL, .int .i64 (zer zs), .slice aB (bef zs).length cB] 25)).heap.size (w2.alloc (.cells #[.slice aL (lev zs).length cL, .int .i64 (zer zs), .slice aB (bef zs).length cB] 25)) wr := by rw [World.size_alloc]; exact hB
    have hX : Box wr w2.heap.size 25 #[.slice aL (lev zs).length cL, .int .i64 (zer zs), .slice aB (bef zs).length cB] := X3.out.below hB (by omega)
    have x0 : wr.cell? ⟨w2.heap.size, 0, none⟩ = some (.slice aL (lev zs).length cL) := by simpa using hX.cell 0
    have x1 : wr.cell? ⟨w2.heap.size, 1, none⟩ = some (.int .i64 (zer zs)) := by simpa using hX.cell 1
    have x2 : wr.cell? ⟨w2.heap.size, 2, none⟩ = some (.slice aB (bef zs).length cB) := by simpa using hX.cell 2
    have HBB := Lib.hid hBB
    have hst := sum_take (bef zs) hbn.out (lev (zs.drop k)).length
    have hlk := lev_length_le (zs.drop k)
    simp at hlk
    clear hX hBB
    cases k with
    | zero =>
      rw [List.drop_zero] at hst ⊢
      have htk : (bef zs).take (lev zs).length = bef zs := List.take_of_length_le (by have := HBL.out; omega)
      rw [htk] at hst ⊢
      have hsp := (poss_of zs).sum
      have HB := Lib.hid hB
      have hnz := (poss_of zs).none
      have d1 : (((lev zs).length : Int) == ((lev zs).length : Int)) = true := by simp
      have d2 : decide (0 ≤ zer zs - (bef zs).sum) = true := by simp; omega
      have fin : ∀ w5 : World, Below wr.heap.size wr w5 → Below w.heap.size w w5 := by
        intro w5 b5
        have s1 := B1.out.size
        have s2 := B2.out.size
        have s3 := HB.out.size
        simp at s3
        exact B1.out.trans ((B2.out.mono (by omega)).trans ((B3.out.mono (by omega)).trans ((HB.out.mono (by omega)).trans (b5.mono (by omega)))))
      have FIN := Lib.hid fin
      clear fin hB htk
      by_cases hvs : lev zs = []
      · have hl0 : (lev zs).length = 0 := by rw [hvs]; rfl
        have hz := hnz hvs
        have d3 : (zer zs == 0) = true := by simp [hz]
        rw [hl0] at x0 ⊢
        clear hvs hl0 hz hnz d1
        go_wp2_with (fail)
        refine (awake_yes _).mono ?_
        rintro e w5 ⟨rfl, b5⟩
        go_wp2_with (fail)
        go_ret
        exact ⟨rfl, FIN.out _ b5⟩
      · have hposN : 0 < (lev zs).length := List.length_pos_iff.2 hvs
        have hpos : (0 : Int) < ((lev zs).length : Int) := by omega
        clear hvs hnz
        go_wp2_with (fail)
        refine (awake_yes _).mono ?_
        rintro e w5 ⟨rfl, b5⟩
        go_wp2_with (fail)
        go_ret
        exact ⟨rfl, FIN.out _ b5⟩
    | succ j =>
      have hj : j < zs.length := by omega
      rw [show (((j + 1 : Nat) : Int) - 1) = (j : Int) from by omega]
      obtain ⟨b1, o1, v, rfl, hcv, HV⟩ := (J2.out.below HBB.out).at_ (k := j) hj
      have j0 : (0 : Int) ≤ (j : Int) := by omega
      have j1 : (j : Int) < (zs.length : Int) := by omega
      by_cases hv : v = 0
      · have e1 : (v == 0) = true := by simp [hv]
        have HE := Lib.hid (show lev (zs.drop j) = lev (zs.drop (j + 1)) from by
          have h0 : zs[j] = 0 := by have := HV.out; rw [hv] at this; simpa [hj] using this
          rw [List.drop_eq_getElem_cons hj, h0, lev_zero])
        clear hv
        go_wp2
        go_roundw
        case rel => exact ⟨j, by omega, rfl, by rw [HE.out], by rw [HE.out], hB⟩
        case measure => simp [intOf]
      · obtain ⟨s1, s2, s3, s4⟩ := shape_at zs j hj v HV.out hv
        have HS1 := Lib.hid s1
        clear s1
        generalize (lev (zs.drop (j + 1))).length = a at *
        obtain ⟨b3, o3, v3, rfl, hcl, HV3⟩ := (A2.out.below HBB.out).at_ (k := a) s2
        obtain rfl : v3 = v := HV3.out.symm.trans s3
        have a0 : (0 : Int) ≤ (a : Int) := by omega
        have a1' : (a : Int) < ((lev zs).length : Int) := by omega
        have d1 : decide (((lev zs).length : Int) ≤ (a : Int)) = false := by simp; omega
        have d1' : decide ((lev zs).length ≤ a) = false := by simp; omega
        have d2 : (v3 != v3) = false := by simp
        have HSU := Lib.hid (fun h : a < (bef zs).length => sum_take_succ (bef zs) a h)
        have HST := Lib.hid (sum_take (bef zs) hbn.out (a + 1))
        obtain ⟨s, hs⟩ : ∃ s, s = ((bef zs).take a).sum := ⟨_, rfl⟩
        have HSS := Lib.hid hs
        rw [← hs] at hst s4 ⊢
        have d3 : ((j : Int) != zer zs - s + ((lev zs).length : Int) - 1 - (a : Int)) = false := by simp; omega
        have e1 : (v3 == 0) = false := by simp [hv]
        clear s3 s4 hs hv
        by_cases hab : a < (bef zs).length
        · obtain ⟨b4, o4, b, rfl, hcb, HVB⟩ := (E2.out.below HBB.out).at_ (k := a) hab
          have hbb : (a : Int) < ((bef zs).length : Int) := by omega
          have hsucc := HSU.out hab
          rw [HVB.out] at hsucc
          have hst2 := HST.out
          rw [hsucc, ← HSS.out] at hst2
          have HSU2 := Lib.hid hsucc
          have hb0 : 0 ≤ b := by rw [← HVB.out]; simp [hab]; exact hbn.out _ (List.getElem_mem hab)
          clear hsucc
          go_wp2
          go_quiet (fail)
          go_wp2
          go_roundw
          case rel => exact ⟨j, by omega, rfl, by rw [HS1.out]; go_num, by rw [HS1.out, HSU2.out, ← HSS.out]; go_num, hB.drewN _⟩
          case measure => simp [intOf]
        · have hbb : ¬ (a : Int) < ((bef zs).length : Int) := by omega
          have HTA := Lib.hid (show (bef zs).take (a + 1) = (bef zs).take a from by rw [List.take_of_length_le (by omega), List.take_of_length_le (by omega)])
          go_wp2
          go_quiet (fail)
          go_wp2
          go_roundw
          case rel => exact ⟨j, by omega, rfl, by rw [HS1.out]; go_num, by rw [HS1.out, HTA.out, ← HSS.out], hB.drewN _⟩
          case measure => simp [intOf]

/-! ### The row -/
set_option maxRecDepth 100000 in
theorem lifted (os : Os) (started : os.Started) (H : Type) (enc : TypeId × Value → H) :
    ReturnsInHanded {} Try.checked os 4 .any (Rows.runsShapeSpec.pre6 enc Try.prog Try.f4 Rows.runsShapeRow.domain false) (Rows.runsShapeSpec.post enc Try.prog Try.f4 false true false false) := by
  refine returnsInHanded_of_change (C := Try.checked) own started (by kernel_rfl) Try.func4
    (ChangeSpec.witness6 (enc := enc) (C := Try.checked) false ⟨#[], #[.slice none 0 0, .int .u8 0], []⟩ 8 (by kernel_rfl) (by kernel_rfl) (by kernel_rfl) (by kernel_rfl)) ?_
  intro W base args ds gs before hval0 hW hcnd _
  have hval : ∀ (j : Nat) t v, Try.f4.params[j]? = some t → args[j]? = some v → Value.okWide Try.prog W .any base t v := hval0
  have hW' := hW
  obtain ⟨p, q, hA0, hV, rfl, hfz, hnd⟩ := hW
  have hA : DataW.TrodAll enc Try.prog W 0 (fun _ => true) true Try.f4.params.toList args.toList ds p := hA0
  rw [Try.params4] at hA hval
  obtain ⟨v0, vs0, d0, ds0, p0, q0, hargs, rfl, rfl, h0, r0⟩ := trodAll_cons hA
  obtain ⟨v1, vs1, d1, ds1, p1, q1, rfl, rfl, rfl, h1, r1⟩ := trodAll_cons r0
  obtain ⟨rfl, rfl, rfl⟩ := trodAll_nil r1
  obtain rfl : args = #[v0, v1] := by cases args; simp_all
  obtain ⟨rfl, rfl⟩ := trodVars_none hV
  obtain ⟨a0, len0, cap0, rfl⟩ := okWide_slice Try.underlying34 (hval 0 34 v0 rfl rfl)
  have k0 := h0
  have lt0 : ∀ x ∈ p0, x.block < W.heap.size := by obtain ⟨m, hm⟩ := k0; exact DataW.trod_lt m _ _ _ hm
  obtain ⟨z0, w0⟩ : ∃ zs, IsRow .i16 W a0 len0 cap0 zs := by
    obtain ⟨fuel, hf⟩ := h0
    rcases open_ints Try.underlying34 Try.underlying46 (by kernel_rfl) hf with ⟨hcs, _⟩ | ⟨x, l, c, zs, hcs, _, hl, hm, hz, _, hcell, hwz⟩
    · simp [Value.cells] at hcs
      obtain ⟨rfl, rfl, rfl⟩ := hcs
      exact ⟨[], .inl ⟨rfl, rfl, rfl, rfl⟩⟩
    · simp [Value.cells] at hcs
      obtain ⟨rfl, rfl, rfl⟩ := hcs
      exact ⟨zs, .inr ⟨_, rfl, hl, hm, by simpa using hz, hcell, hwz⟩⟩
  obtain ⟨a1, rfl, rfl, rfl, w1⟩ := open_int Try.underlying5 (hval 1 5 v1 rfl rfl) h1
  clear hA0 hval0
  refine (walk a0 len0 cap0 z0 a1 W w0 w1).mono fun e W' ⟨he, bel⟩ => ?_
  subst he
  exact ⟨_, rfl, _, _, _, [], _, [], hW', trodAll_mk1 (shut_bool Try.underlying4 _), (trodAll_cons_mk (Below.trod laidOut (by kernel_rfl) (of_decide_eq_true (by kernel_rfl)) k0 bel lt0) (trodAll_cons_mk (shut_int Try.underlying5 w1) trodAll_mk0)), rfl, bel.frame _, fun h => by cases h⟩

theorem over : Rows.runsShapeRow.holds Try.pinned (OpenSpec.ofChange Rows.runsShapeSpec) :=
  OpenClaim.holds_of_wide 4 Try.f4 rfl rfl rfl rfl rfl rfl rfl ⟨rfl, rfl, rfl, rfl, rfl⟩ rfl rfl rfl rfl rfl (by kernel_rfl) Try.func4 (by kernel_rfl)
    (of_decide_eq_true (by kernel_rfl)) (by unfold Func.isWrapper; first | (rw [if_pos (by decide +kernel)]; kernel_rfl) | (rw [if_neg (by decide +kernel)]; exact ⟨rfl, rfl⟩))
    (fun os started H enc _ => lifted os started H enc)

/-- The statement. -/
theorem proved : Rows.RunsShapeSaid := over
#print axioms proved
end Go.Proofs.Ytcaglhodkdfncaa.runsShape
