/- RunsSigns: for every block of 4, 15 or 16 coefficients that some numbers give, if all coefficients change their signs, so do the levels, and nothing else; no conditions. -/
import Derived.Test.YtcaglhodkdfncaaRows
import Derived.WalkKit
import Derived.ProofKit
import Derived.OpenShut
import Derived.ShutString
import Derived.ChangeOld
import Derived.Below
import Derived.Deep.RegionHeld3
import Derived.Test.YtcaglhodkdfncaaRow
import Derived.Test.YtcaglhodkdfncaaBad
namespace Go.Proofs.Ytcaglhodkdfncaa.runsSigns
open Go.ChangeShapes Go.WideShapes Go.ChangeAt Go.RowKit
open Go.ChangeMaps (open_string shut_string)
set_option linter.unusedVariables false

theorem own : ownKnob Try.prog.godebug = none := by kernel_rfl
theorem laidOut : laidOutB Try.prog = true := by kernel_rfl

/-! ### The walk -/
theorem fits_of_16 {zs : List Int} (h : Fits16 zs) : Fits zs := fun v hv => by have := h v hv; omega

def negs (l : List Int) : List Int := l.map (fun v => -v)
theorem lev_neg (l : List Int) : lev (negs l) = negs (lev l) ∧ bef (negs l) = bef l ∧ gap (negs l) = gap l := by
  induction l with
  | nil => exact ⟨rfl, rfl, rfl⟩
  | cons v l ih =>
    obtain ⟨h1, h2, h3⟩ := ih
    have e : negs (v :: l) = (-v) :: negs l := rfl
    rw [e]
    by_cases hv : v = 0
    · subst hv
      rw [show (-0 : Int) = 0 from rfl, lev_zero, bef_zero, gap_zero, lev_zero, bef_zero, gap_zero, h1, h2, h3]
      exact ⟨rfl, rfl, rfl⟩
    · have hn : -v ≠ 0 := by omega
      rw [lev_cons hn, gap_cons hn, lev_cons hv, gap_cons hv, h1]
      refine ⟨by simp [negs], ?_, rfl⟩
      by_cases hl : lev l = []
      · rw [bef_cons_first hv l hl, bef_cons_first hn (negs l) (by rw [h1, hl]; rfl), h2]
      · rw [bef_cons_next hv l hl, bef_cons_next hn (negs l) (by rw [h1]; simpa [negs] using hl), h2, h3]
theorem zer_neg (l : List Int) : zer (negs l) = zer l := by
  obtain ⟨h1, h2, h3⟩ := lev_neg l
  unfold zer
  rw [h1, h2, h3]
  by_cases hl : lev l = []
  · rw [if_pos hl, if_pos (by rw [hl]; rfl)]
  · rw [if_neg hl, if_neg (by simpa [negs] using hl)]
theorem tw_neg : ∀ l : List Int, ((negs l).takeWhile isOne).length = (l.takeWhile isOne).length
  | [] => rfl
  | v :: l => by
    have e : negs (v :: l) = (-v) :: negs l := rfl
    have h : isOne (-v) = isOne v := by
      unfold isOne
      rw [Bool.eq_iff_iff]
      simp; omega
    rw [e, List.takeWhile_cons, List.takeWhile_cons, h]
    by_cases hv : isOne v = true
    · simp [hv, tw_neg l]
    · simp [hv]
theorem ones_neg (l : List Int) : onesL (negs l) = onesL l := by
  unfold onesL
  rw [show (negs l).take 3 = negs (l.take 3) from by simp [negs]]
  exact tw_neg _
theorem fits_neg {l : List Int} (h : Fits16 l) : Fits (negs l) := by
  intro v hv
  obtain ⟨x, hx, rfl⟩ := List.mem_map.1 hv
  have := h x hx
  omega

/-- The copy while its signs are changed: its first k numbers have changed. -/
structure Turn (w : World) (g n cap : Nat) (zs : List Int) (k : Nat) (cs : Array Value) : Prop where
  box : Box w g 3 cs
  at' : ∀ j, j < n → cs[j]? = some (.int .i64 (if j < k then -(zs[j]?.getD 0) else zs[j]?.getD 0))

theorem Turn.of_own {w : World} {base : Nat} {v : Value} {zs : List Int} (h : w.ownsRow base 3 1 v zs.length (zs.map (Value.int .i64))) (h0 : 0 < zs.length) :
    ∃ g cap cs, v = .slice (some ⟨g, 0, none⟩) zs.length cap ∧ base ≤ g ∧ Turn w g zs.length cap zs 0 cs := by
  rcases h.2 with ⟨rfl, h1⟩ | ⟨g, cap, cur, rfl, hb, hg, hc, hm, hs, ht⟩
  · simp at h1; subst h1; simp at h0
  · refine ⟨g, cap, cur, rfl, hb, hg, fun j hj => ?_⟩
    have hcell := h.cells (g := g) rfl j (.int .i64 (zs[j]?.getD 0)) (by rw [List.getElem?_map, List.getElem?_eq_getElem hj]; rfl)
    have hadd : (⟨g, 0, none⟩ : Addr).add j = ⟨g, 0 + j, none⟩ := by unfold Addr.add; split <;> simp_all
    rw [hadd, Nat.zero_add] at hcell
    rw [if_neg (by omega), ← hcell]
    exact (Box.cell (t := 3) (cs := cur) hg j).symm

theorem Turn.step {w : World} {g n cap : Nat} {zs : List Int} {k : Nat} {cs : Array Value} (h : Turn w g n cap zs k cs) (hk : k < n) {v : Int} (hv : zs[k]?.getD 0 = v) :
    Turn (w.setCell ⟨g, k, none⟩ (.int .i64 (-v))) g n cap zs (k + 1) (cs.setIfInBounds k (.int .i64 (-v))) := by
  refine ⟨h.box.set _ _, fun j hj => ?_⟩
  have hj' := h.at' j hj
  by_cases e : j = k
  · subst e
    rw [if_pos (by omega), hv]
    have : j < cs.size := (Array.getElem?_eq_some_iff.1 hj').1
    simp [Array.getElem?_setIfInBounds, this]
  · rw [Array.getElem?_setIfInBounds, if_neg (by omega), hj']
    by_cases e2 : j < k
    · rw [if_pos e2, if_pos (by omega)]
    · rw [if_neg e2, if_neg (by omega)]

theorem Turn.ints {w : World} {g cap : Nat} {zs : List Int} {cs : Array Value} (h : Turn w g zs.length cap zs zs.length cs) (h0 : 0 < zs.length) (hl : zs.length ≤ 4096) :
    Ints w (.slice (some ⟨g, 0, none⟩) zs.length cap) (negs zs) := by
  have hn : (negs zs).length = zs.length := by simp [negs]
  refine .inr ⟨g, 0, cap, by rw [hn], by omega, by omega, fun j hj => ?_⟩
  rw [hn] at hj
  rw [Nat.zero_add, h.box.cell j, h.at' j hj, if_pos hj]
  simp [negs, hj]

set_option maxRecDepth 100000 in
set_option maxHeartbeats 8000000 in
theorem walk (a0 : Option Addr) (len0 cap0 : Nat) (z0 : List Int) (a1 : Int) (w : World) (w0 : IsRow .i16 w a0 len0 cap0 z0) (w1 : (Lit.int .u8 a1).wf = true) :
    Calls Try.prog 5 #[.slice a0 len0 cap0, .int .u8 a1] w fun e w' => e = .returned (.bool true) ∧ Below w.heap.size w w' := by
  have hlenm : len0 ≤ 9223372036854775807 := by
    rcases w0 with ⟨_, rfl, _⟩ | ⟨x, _, h1, h2, _⟩
    · omega
    · simp only [maxLen] at h2; omega
  have W0 := Lib.hid w0
  have W1 := Lib.hid w1
  clear w0 w1
  go_enter Try.func5, Try.ntmps5
  go_wp2_with (fail)
  refine (lsized a0 len0 cap0 z0 a1 _ W0.out hlenm W1.out).mono ?_
  rintro e w1 ⟨v1, zs, rfl, o1, hsz, hf16, b1⟩
  have hl16 : zs.length ≤ 16 := by omega
  have h0 : 0 < zs.length := by omega
  have I1 := (ints_of_own o1 (by omega)).1
  obtain ⟨a1', c1', rfl⟩ := I1.form
  have J1 := Lib.hid I1
  have B1 := Lib.hid b1
  have HSZ := Lib.hid hsz
  have HF := Lib.hid hf16
  clear o1 I1 b1 hsz hf16
  go_wp2_with (fail)
  refine (copyInts _ zs _ J1.out).mono ?_
  rintro e w2 ⟨v2, rfl, o2, b2⟩
  obtain ⟨g, cap, cs, rfl, hg, ht⟩ := Turn.of_own o2 h0
  have B2 := Lib.hid b2
  have T0 := Lib.hid ht
  have sz2 := b2.size
  clear o2 b2 ht
  go_wp2_with (fail)
  go_loopw [7] (fun i wr => ∃ (k : Nat) (cs : Array Value), k ≤ zs.length ∧ i = .int .i64 (k : Int) ∧ Turn wr g zs.length cap zs k cs ∧ Below w1.heap.size w1 wr) (fun i _ => zs.length - (intOf i).toNat)
  case atStart => exact ⟨0, cs, Nat.zero_le _, rfl, T0.out, B2.out⟩
  case round =>
    obtain ⟨k, cs, hk, rfl, ht, hB⟩ := hrel
    clear T0
    by_cases hlt : k < zs.length
    · obtain ⟨v, hv⟩ : ∃ v, zs[k]?.getD 0 = v := ⟨_, rfl⟩
      have hvv : -32768 ≤ v ∧ v ≤ 32767 := by
        rw [← hv]; exact HF.out _ (by simp [hlt])
      have hcx : wr.cell? ⟨g, k, none⟩ = some (.int .i64 v) := by rw [ht.box.cell k, ht.at' k hlt, if_neg (by omega), hv]
      have hfx := ht.box.frozen k
      have TT := Lib.hid (ht.step hlt hv)
      have BB := Lib.hid (hB.setCell (p := ⟨g, k, none⟩) hg (.int .i64 (-v)))
      obtain ⟨v0, v1⟩ := hvv
      clear ht hB hv
      go_wp2_with (fail)
      go_roundw
      case rel => exact ⟨k + 1, _, by omega, by go_num, TT.out, BB.out⟩
      case measure => simp [intOf]; omega
    · obtain rfl : k = zs.length := by omega
      have J2 := Lib.hid (ht.ints h0 (by omega))
      have J1' := Lib.hid (J1.out.below hB)
      have B3 := Lib.hid hB
      clear ht hB
      obtain ⟨hn1, hn2, hn3⟩ := lev_neg zs
      have hn4 := zer_neg zs
      have hn5 := ones_neg (lev zs)
      have hn6 : (negs zs).length = zs.length := by simp [negs]
      have OX := Lib.hid (fun W (hI : Ints W (.slice a1' zs.length c1') zs) => of_yes _ zs W hI (fits_of_16 HF.out) HSZ.out)
      have OY := Lib.hid (fun W (hI : Ints W (.slice (some ⟨g, 0, none⟩) zs.length cap) (negs zs)) => of_yes _ (negs zs) W hI (fits_neg HF.out) (by rw [hn6]; exact HSZ.out))
      rw [hn1, hn2, hn4] at OY
      have hll := lev_length_le zs
      have hn7 : (negs (lev zs)).length = (lev zs).length := by simp [negs]
      have HN7 := Lib.hid hn7
      have HN5 := Lib.hid hn5
      have HAT := Lib.hid (show ∀ j, j < (lev zs).length → (negs (lev zs))[j]?.getD 0 = -((lev zs)[j]?.getD 0) from fun j hj => by simp [negs, hj])
      have HR := Lib.hid (show ∀ j, j < (lev zs).length → -32768 ≤ (lev zs)[j]?.getD 0 ∧ (lev zs)[j]?.getD 0 ≤ 32767 from fun j hj => HF.out _ (by simp [hj]; exact lev_mem _ _ (List.getElem_mem hj)))
      clear hn1 hn2 hn3 hn4 hn5 hn6 hn7
      generalize lev zs = vs at *
      generalize bef zs = bs at *
      generalize zer zs = z at *
      generalize negs vs = ns at *
      go_wp2_with (fail)
      refine (OX.out _ J1'.out).mono ?_
      rintro e w4 ⟨sL, sB, rfl, iL, iB, b4⟩
      obtain ⟨aL, cL, rfl⟩ := iL.form
      obtain ⟨aB, cB, rfl⟩ := iB.form
      have hb5 : Below w4.heap.size w4 (w4.alloc (.cells #[.slice aL vs.length cL, .int .i64 z, .slice aB bs.length cB] 25)) := (Below.refl _ w4).alloc (Nat.le_refl _) _
      have J3 := Lib.hid ((J2.out.below b4).below hb5)
      have X5 := Lib.hid (Box.new w4 25 #[.slice aL vs.length cL, .int .i64 z, .slice aB bs.length cB])
      have IL := Lib.hid (iL.below hb5)
      have IB := Lib.hid (iB.below hb5)
      have B4 := Lib.hid ((B3.out.trans (b4.mono B3.out.size)).trans (hb5.mono (by have := B3.out.size; have := b4.size; omega)))
      have s4 := b4.size
      clear iL iB b4 hb5
      go_wp2_with (fail)
      refine (OY.out _ J3.out).mono ?_
      rintro e w6 ⟨sL', sB', rfl, iL', iB', b6⟩
      obtain ⟨aL', cL', rfl⟩ := iL'.form
      obtain ⟨aB', cB', rfl⟩ := iB'.form
      rw [HN7.out]
      have hb7 : Below w6.heap.size w6 (w6.alloc (.cells #[.slice aL' vs.length cL', .int .i64 z, .slice aB' bs.length cB'] 25)) := (Below.refl _ w6).alloc (Nat.le_refl _) _
      have X7 := Lib.hid ((X5.out.below b6 (by simp)).alloc (.cells #[.slice aL' vs.length cL', .int .i64 z, .slice aB' bs.length cB'] 25))
      have Y7 := Lib.hid (Box.new w6 25 #[.slice aL' vs.length cL', .int .i64 z, .slice aB' bs.length cB'])
      have IL2 := Lib.hid ((IL.out.below b6).below hb7)
      have IB2 := Lib.hid ((IB.out.below b6).below hb7)
      rw [HN7.out] at iL'
      have IL3 := Lib.hid (iL'.below hb7)
      have IB3 := Lib.hid (iB'.below hb7)
      have s6 := b6.size
      have B7 := Lib.hid ((B4.out.trans (b6.mono B4.out.size)).trans (hb7.mono (by have := B4.out.size; have := b6.size; omega)))
      clear iL' iB' b6 hb7 IL IB X5
      simp at s6
      have HS := Lib.hid s6
      clear s6
      go_wp2_with (fail)
      generalize hW : w6.alloc (.cells #[.slice aL' vs.length cL', .int .i64 z, .slice aB' bs.length cB'] 25) = W at *
      have hWs : W.heap.size = w6.heap.size + 1 := by rw [← hW]; simp
      have hX := X7.out.lt
      have hY := Y7.out.lt
      have hWB := B7.out.size
      clear hW hWs s4
      have SIX := Lib.hid (show ∀ w', Below W.heap.size W w' → (Below W.heap.size W w' ∧ w'.cell? ⟨w4.heap.size, 0, none⟩ = some (.slice aL vs.length cL) ∧ w'.cell? ⟨w4.heap.size, 1, none⟩ = some (.int .i64 z) ∧ w'.cell? ⟨w4.heap.size, 2, none⟩ = some (.slice aB bs.length cB)
          ∧ w'.cell? ⟨w6.heap.size, 0, none⟩ = some (.slice aL' vs.length cL') ∧ w'.cell? ⟨w6.heap.size, 1, none⟩ = some (.int .i64 z) ∧ w'.cell? ⟨w6.heap.size, 2, none⟩ = some (.slice aB' bs.length cB')) from by
        intro w' hb
        have e1 := X7.out.below hb X7.out.lt
        have e2 := Y7.out.below hb Y7.out.lt
        exact ⟨hb, by simpa using e1.cell 0, by simpa using e1.cell 1, by simpa using e1.cell 2, by simpa using e2.cell 0, by simpa using e2.cell 1, by simpa using e2.cell 2⟩)
      have E14 := Lib.hid (show ∀ w', Below W.heap.size W w' → Calls Try.prog 14 #[.slice aB bs.length cB, .slice aB' bs.length cB'] w' fun e w'' => e = .returned (.bool true) ∧ Below W.heap.size W w'' from fun w' hb =>
        (equalInts_same _ _ bs w' (IB2.out.below hb) (IB3.out.below hb)).mono fun e w'' ⟨he, hb2⟩ => ⟨he, hb.trans (hb2.mono hb.size)⟩)
      have E17 := Lib.hid (show ∀ w', Below W.heap.size W w' → Calls Try.prog 17 #[.agg #[.slice aL vs.length cL, .int .i64 z, .slice aB bs.length cB]] w' fun e w'' => e = .returned (.int .i64 (onesL vs)) ∧ Below W.heap.size W w'' from fun w' hb =>
        (ones_any 17 (.inl rfl) _ z aB bs.length cB vs w' (IL2.out.below hb)).mono fun e w'' ⟨he, hb2⟩ => ⟨he, hb.trans (hb2.mono hb.size)⟩)
      have F17 := Lib.hid (show ∀ w', Below W.heap.size W w' → Calls Try.prog 17 #[.agg #[.slice aL' vs.length cL', .int .i64 z, .slice aB' bs.length cB']] w' fun e w'' => e = .returned (.int .i64 (onesL vs)) ∧ Below W.heap.size W w'' from fun w' hb =>
        (ones_any 17 (.inl rfl) _ z aB' bs.length cB' ns w' (IL3.out.below hb)).mono fun e w'' ⟨he, hb2⟩ => ⟨by rw [he, HN5.out], hb.trans (hb2.mono hb.size)⟩)
      generalize onesL vs = o at *
      have hb0 := Below.refl W.heap.size W
      obtain ⟨_, x0, x1, x2, y0, y1, y2⟩ := SIX.out W hb0
      have e1 : (((vs.length : Int)) != ((vs.length : Int))) = false := by simp
      have e2 : (z != z) = false := by simp
      have e3 : (o != o) = false := by simp
      go_region_held3 (fun w' => Below W.heap.size W w' ∧ w'.cell? ⟨w4.heap.size, 0, none⟩ = some (.slice aL vs.length cL) ∧ w'.cell? ⟨w4.heap.size, 1, none⟩ = some (.int .i64 z) ∧ w'.cell? ⟨w4.heap.size, 2, none⟩ = some (.slice aB bs.length cB)
          ∧ w'.cell? ⟨w6.heap.size, 0, none⟩ = some (.slice aL' vs.length cL') ∧ w'.cell? ⟨w6.heap.size, 1, none⟩ = some (.int .i64 z) ∧ w'.cell? ⟨w6.heap.size, 2, none⟩ = some (.slice aB' bs.length cB'))
        (first | exact SIX.out _ (by assumption) | exact SIX.out _ (Below.drew (by assumption)))
        (first
          | (go_at_call 14; (with_reducible refine (E14.out _ (by first | assumption | exact And.left (by assumption))).mono ?_); rintro e w8 ⟨rfl, bb⟩)
          | (go_at_call 17; (with_reducible refine (E17.out _ (by first | assumption | exact And.left (by assumption))).mono ?_); rintro e w8 ⟨rfl, bb⟩)
          | (go_at_call 17; (with_reducible refine (F17.out _ (by first | assumption | exact And.left (by assumption))).mono ?_); rintro e w8 ⟨rfl, bb⟩))
      all_goals
        have B8 := Lib.hid bb
        clear bb x0 x1 x2 y0 y1 y2 hb0 E14 E17 F17 e1 e2 e3
        go_wp2_with (fail)
        go_loopw [12] (fun i wx => ∃ k : Nat, k ≤ vs.length ∧ i = .int .i64 (k : Int) ∧ Below W.heap.size W wx) (fun i _ => vs.length - (intOf i).toNat)
        case atStart => exact ⟨0, Nat.zero_le _, rfl, B8.out⟩
        case round =>
          obtain ⟨k, hk', rfl, hB⟩ := hrel
          obtain ⟨_, x0, x1, x2, y0, y1, y2⟩ := SIX.out _ hB
          have BX := Lib.hid hB
          clear hB
          by_cases hlt' : k < vs.length
          · obtain ⟨p1, o1, v, rfl, hc1, HV1⟩ := (IL2.out.below BX.out).at_ (k := k) hlt'
            obtain ⟨p2, o2, v', rfl, hc2, HV2⟩ := (IL3.out.below BX.out).at_ (k := k) (by rw [HN7.out]; exact hlt')
            obtain ⟨r0, r1⟩ := HR.out k hlt'
            rw [HV1.out] at r0 r1
            obtain rfl : v' = -v := by rw [← HV2.out, HAT.out k hlt', HV1.out]
            have k0 : (0 : Int) ≤ (k : Int) := by omega
            have k1 : (k : Int) < (vs.length : Int) := by omega
            have e1 : (v != v) = false := by simp
            go_wp2_with (fail)
            go_quiet (fail)
            go_wp2_with (fail)
            go_roundw
            case rel => exact ⟨k + 1, by omega, by go_num, BX.out.drewN _⟩
            case measure => simp [intOf]; omega
          · go_wp2_with (fail)
            refine (awake_yes _).mono ?_
            rintro e w9 ⟨rfl, b9⟩
            have B9 := Lib.hid (BX.out.trans (b9.mono BX.out.size))
            clear b9
            go_wp2_with (fail)
            go_ret
            exact ⟨rfl, B1.out.trans ((B7.out.mono B1.out.size).trans (B9.out.mono (by have := B1.out.size; have := B7.out.size; omega)))⟩

/-! ### The row -/
set_option maxRecDepth 100000 in
theorem lifted (os : Os) (started : os.Started) (H : Type) (enc : TypeId × Value → H) :
    ReturnsInHanded {} Try.checked os 5 .any (Rows.runsSignsSpec.pre6 enc Try.prog Try.f5 Rows.runsSignsRow.domain false) (Rows.runsSignsSpec.post enc Try.prog Try.f5 false true false false) := by
  refine returnsInHanded_of_change (C := Try.checked) own started (by kernel_rfl) Try.func5
    (ChangeSpec.witness6 (enc := enc) (C := Try.checked) false ⟨#[], #[.slice none 0 0, .int .u8 0], []⟩ 8 (by kernel_rfl) (by kernel_rfl) (by kernel_rfl) (by kernel_rfl)) ?_
  intro W base args ds gs before hval0 hW hcnd _
  have hval : ∀ (j : Nat) t v, Try.f5.params[j]? = some t → args[j]? = some v → Value.okWide Try.prog W .any base t v := hval0
  have hW' := hW
  obtain ⟨p, q, hA0, hV, rfl, hfz, hnd⟩ := hW
  have hA : DataW.TrodAll enc Try.prog W 0 (fun _ => true) true Try.f5.params.toList args.toList ds p := hA0
  rw [Try.params5] at hA hval
  obtain ⟨v0, vs0, d0, ds0, p0, q0, hargs, rfl, rfl, h0, r0⟩ := trodAll_cons hA
  obtain ⟨v1, vs1, d1, ds1, p1, q1, rfl, rfl, rfl, h1, r1⟩ := trodAll_cons r0
  obtain ⟨rfl, rfl, rfl⟩ := trodAll_nil r1
  obtain rfl : args = #[v0, v1] := by cases args; simp_all
  obtain ⟨rfl, rfl⟩ := trodVars_none hV
  obtain ⟨a0, len0, cap0, rfl⟩ := okWide_slice Try.underlying34 (hval 0 34 v0 rfl rfl)
  have k0 := h0
  have lt0 : ∀ x ∈ p0, x.block < W.heap.size := by obtain ⟨m, hm⟩ := k0; exact DataW.trod_lt m _ _ _ hm
  obtain ⟨z0, w0⟩ : ∃ zs, IsRow .i16 W a0 len0 cap0 zs := by
    obtain ⟨fuel, hf⟩ := h0
    rcases open_ints Try.underlying34 Try.underlying46 (by kernel_rfl) hf with ⟨hcs, _⟩ | ⟨x, l, c, zs, hcs, _, hl, hm, hz, _, hcell, hwz⟩
    · simp [Value.cells] at hcs
      obtain ⟨rfl, rfl, rfl⟩ := hcs
      exact ⟨[], .inl ⟨rfl, rfl, rfl, rfl⟩⟩
    · simp [Value.cells] at hcs
      obtain ⟨rfl, rfl, rfl⟩ := hcs
      exact ⟨zs, .inr ⟨_, rfl, hl, hm, by simpa using hz, hcell, hwz⟩⟩
  obtain ⟨a1, rfl, rfl, rfl, w1⟩ := open_int Try.underlying5 (hval 1 5 v1 rfl rfl) h1
  clear hA0 hval0
  refine (walk a0 len0 cap0 z0 a1 W w0 w1).mono fun e W' ⟨he, bel⟩ => ?_
  subst he
  exact ⟨_, rfl, _, _, _, [], _, [], hW', trodAll_mk1 (shut_bool Try.underlying4 _), (trodAll_cons_mk (Below.trod laidOut (by kernel_rfl) (of_decide_eq_true (by kernel_rfl)) k0 bel lt0) (trodAll_cons_mk (shut_int Try.underlying5 w1) trodAll_mk0)), rfl, bel.frame _, fun h => by cases h⟩

theorem over : Rows.runsSignsRow.holds Try.pinned (OpenSpec.ofChange Rows.runsSignsSpec) :=
  OpenClaim.holds_of_wide 5 Try.f5 rfl rfl rfl rfl rfl rfl rfl ⟨rfl, rfl, rfl, rfl, rfl⟩ rfl rfl rfl rfl rfl (by kernel_rfl) Try.func5 (by kernel_rfl)
    (of_decide_eq_true (by kernel_rfl)) (by unfold Func.isWrapper; first | (rw [if_pos (by decide +kernel)]; kernel_rfl) | (rw [if_neg (by decide +kernel)]; exact ⟨rfl, rfl⟩))
    (fun os started H enc _ => lifted os started H enc)

/-- The statement. -/
theorem proved : Rows.RunsSignsSaid := over
#print axioms proved
end Go.Proofs.Ytcaglhodkdfncaa.runsSigns
