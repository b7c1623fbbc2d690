/- What both Of return for blocks of another size, and for levels out of range; awake returns true. -/
import Derived.Test.YtcaglhodkdfncaaOf
import Derived.Test.YtcaglhodkdfncaaRef
namespace Go.Proofs.Ytcaglhodkdfncaa
open Go.RowKit

def nilRuns : Value := .agg #[.slice none 0 0, .int .i64 0, .slice none 0 0]

set_option maxHeartbeats 1000000 in
theorem of_size (sv : Value) (zs : List Int) (w : World) (h : Ints w sv zs) (h4 : ¬ zs.length = 4) (h15 : ¬ zs.length = 15) (h16 : ¬ zs.length = 16) :
    Calls Try.prog 11 #[sv] w fun e w' => e = .returned (.tuple #[nilRuns, .int .i64 2]) ∧ Below w.heap.size w w' := by
  obtain ⟨a, cap, rfl⟩ := h.form
  have hl := h.len
  have H4 := Lib.hid h4
  have H15 := Lib.hid h15
  have H16 := Lib.hid h16
  clear h4 h15 h16 h
  go_enter Try.func11, Try.ntmps11
  go_wp2_with (go_at_call 22; refine (sized_no 22 (.inl rfl) _ _ (by have := H4.out; omega) (by have := H15.out; omega) (by have := H16.out; omega)).mono ?_; rintro e w' ⟨rfl, rfl⟩)
  refine bodyPost_ret (v := .tuple #[.agg #[.slice none 0 0, .int .i64 0, .slice none 0 0], .int .i64 2]) (by simp [results, Try.f11, go_sem]) rfl ⟨rfl, ?_⟩
  repeat (first | exact Below.refl _ _ | refine Below.setCell ?_ (by simp) _ | refine Below.alloc ?_ (by simp) _)

set_option maxHeartbeats 1000000 in
theorem of_range (sv : Value) (zs : List Int) (w : World) (h : Ints w sv zs) (hz : ¬ Fits zs) (hs : zs.length = 4 ∨ zs.length = 15 ∨ zs.length = 16) :
    Calls Try.prog 11 #[sv] w fun e w' => e = .returned (.tuple #[nilRuns, .int .i64 3]) ∧ Below w.heap.size w w' := by
  have hI := h
  obtain ⟨a, cap, rfl⟩ := h.form
  have hl := h.len
  have HS := Lib.hid hs
  have HI := Lib.hid hI
  clear hs h hI
  go_enter Try.func11, Try.ntmps11
  go_wp2_with (first
    | (go_at_call 22; refine (sized_yes 22 (.inl rfl) _ _ (by have := HS.out; omega)).mono ?_; rintro e w' ⟨rfl, rfl⟩)
    | (go_at_call 23; refine (ranged_no _ zs _ (HI.out.below ((Below.refl _ w).alloc (Nat.le_refl _) _)) hz).mono ?_; rintro e w' ⟨rfl, rfl⟩))
  refine bodyPost_ret (v := .tuple #[.agg #[.slice none 0 0, .int .i64 0, .slice none 0 0], .int .i64 3]) (by simp [results, Try.f11, go_sem]) rfl ⟨rfl, ?_⟩
  repeat (first | exact Below.refl _ _ | refine Below.setCell ?_ (by simp) _ | refine Below.alloc ?_ (by simp) _)

set_option maxHeartbeats 1000000 in
theorem rof_size (sv : Value) (zs : List Int) (w : World) (h : Ints w sv zs) (h4 : ¬ zs.length = 4) (h15 : ¬ zs.length = 15) (h16 : ¬ zs.length = 16) :
    Calls Try.prog 12 #[sv] w fun e w' => e = .returned (.tuple #[nilRuns, .int .i64 2]) ∧ Below w.heap.size w w' := by
  obtain ⟨a, cap, rfl⟩ := h.form
  have hl := h.len
  have H4 := Lib.hid h4
  have H15 := Lib.hid h15
  have H16 := Lib.hid h16
  clear h4 h15 h16 h
  go_enter Try.func12, Try.ntmps12
  go_wp2_with (go_at_call 25; refine (sized_no 25 (.inr rfl) _ _ (by have := H4.out; omega) (by have := H15.out; omega) (by have := H16.out; omega)).mono ?_; rintro e w' ⟨rfl, rfl⟩)
  refine bodyPost_ret (v := .tuple #[.agg #[.slice none 0 0, .int .i64 0, .slice none 0 0], .int .i64 2]) (by simp [results, Try.f12, go_sem]) rfl ⟨rfl, ?_⟩
  repeat (first | exact Below.refl _ _ | refine Below.setCell ?_ (by simp) _ | refine Below.alloc ?_ (by simp) _)

set_option maxHeartbeats 1000000 in
theorem rof_range (sv : Value) (zs : List Int) (w : World) (h : Ints w sv zs) (hz : ¬ Fits zs) (hs : zs.length = 4 ∨ zs.length = 15 ∨ zs.length = 16) :
    Calls Try.prog 12 #[sv] w fun e w' => e = .returned (.tuple #[nilRuns, .int .i64 3]) ∧ Below w.heap.size w w' := by
  have hI := h
  obtain ⟨a, cap, rfl⟩ := h.form
  have hl := h.len
  have HS := Lib.hid hs
  have HI := Lib.hid hI
  clear hs h hI
  have HB0 := Lib.hid (((Below.refl w.heap.size w).alloc (Nat.le_refl _) (.cells #[.slice none 0 0, .int .i64 0, .slice none 0 0] 25)).alloc (by simp) (.cells #[.slice none 0 0, .int .i64 0, .slice none 0 0] 25))
  go_enter Try.func12, Try.ntmps12
  go_wp2_with (first
    | (go_at_call 25; refine (sized_yes 25 (.inr rfl) _ _ (by have := HS.out; omega)).mono ?_; rintro e w' ⟨rfl, rfl⟩)
    | (go_at_call 26; refine (rranged_no _ zs _ (HI.out.below HB0.out) hz).mono ?_; rintro e w' ⟨rfl, rfl⟩))
  refine bodyPost_ret (v := .tuple #[.agg #[.slice none 0 0, .int .i64 0, .slice none 0 0], .int .i64 3]) (by simp [results, Try.f12, go_sem]) rfl ⟨rfl, ?_⟩
  repeat (first | exact Below.refl _ _ | refine Below.setCell ?_ (by simp) _ | refine Below.alloc ?_ (by simp) _)

/-- A slice that a composite literal has made. -/
theorem ints_block {w : World} {g : Nat} {t : TypeId} {zs : List Int} (h : Box w g t (zs.map (Value.int .i64)).toArray) (hl : zs.length ≤ 4096) (cap : Nat) : Ints w (.slice (some ⟨g, 0, none⟩) zs.length cap) zs := by
  by_cases h0 : zs.length = 0
  · exact .inl ⟨_, cap, by rw [h0], List.length_eq_zero_iff.1 h0⟩
  · refine .inr ⟨g, 0, cap, rfl, by omega, hl, fun j hj => ?_⟩
    rw [Nat.zero_add, h.cell j]
    simp [hj]

set_option maxHeartbeats 2000000 in
theorem awake_yes (w : World) : Calls Try.prog 15 #[] w fun e w' => e = .returned (.bool true) ∧ Below w.heap.size w w' := by
  have e1 : lev [0, 3, 0, -1] = [-1, 3] := by decide
  have e2 : bef [0, 3, 0, -1] = [1] := by decide
  have e3 : zer [0, 3, 0, -1] = 2 := by decide
  have e4 : onesL [-1, 3] = 1 := by decide
  have HI := Lib.hid (ints_block (zs := [0, 3, 0, -1]) (Box.new w 3 #[.int .i64 0, .int .i64 3, .int .i64 0, .int .i64 (-1)]) (by decide) 4)
  have E := Lib.hid (And.intro e1 (And.intro e2 (And.intro e3 e4)))
  clear e1 e2 e3 e4
  go_enter Try.func15, Try.ntmps15
  go_wp2_with (fail)
  refine (of_yes _ [0, 3, 0, -1] _ HI.out (by intro v hv; simp at hv; omega) (.inl rfl)).mono ?_
  rintro e w1 ⟨sL, sB, rfl, iL, iB, b1⟩
  obtain ⟨e1, e2, e3, e4⟩ := E.out
  rw [e1] at iL
  rw [e2] at iB
  rw [e3]
  clear e1 e2 e3 e4
  obtain ⟨aL, cL, rfl⟩ := iL.form
  obtain ⟨aB, cB, rfl⟩ := iB.form
  have hb2 : Below w1.heap.size w1 (((w1.alloc (.cells #[.slice aL 2 cL, .int .i64 2, .slice aB 1 cB] 25)).alloc (.cells #[.int .i64 (-1), .int .i64 3] 3)).alloc (.cells #[.int .i64 1] 3)) :=
    (((Below.refl _ w1).alloc (Nat.le_refl _) _).alloc (by simp) _).alloc (by simp <;> omega) _
  have B1 := Box.new (w1.alloc (.cells #[.slice aL 2 cL, .int .i64 2, .slice aB 1 cB] 25)) 3 #[.int .i64 (-1), .int .i64 3]
  have B2 := Box.new ((w1.alloc (.cells #[.slice aL 2 cL, .int .i64 2, .slice aB 1 cB] 25)).alloc (.cells #[.int .i64 (-1), .int .i64 3] 3)) 3 #[.int .i64 1]
  simp only [World.size_alloc] at B1 B2
  have B1' := Lib.hid (ints_block (zs := [-1, 3]) (B1.alloc (.cells #[.int .i64 1] 3)) (by decide) 2)
  have B2' := Lib.hid (ints_block (zs := [1]) B2 (by decide) 1)
  have B0 := Box.new w1 25 #[.slice aL 2 cL, .int .i64 2, .slice aB 1 cB]
  have IL := Lib.hid (iL.below hb2)
  have IB := Lib.hid (iB.below hb2)
  have HB2 := Lib.hid hb2
  have HB1 := Lib.hid b1
  clear hb2 B1 B2 iL iB b1
  go_wp2_with (fail)
  refine (equalRuns_same _ _ _ _ 2 [-1, 3] [1] _ IL.out IB.out B1'.out B2'.out).mono ?_
  rintro e w2 ⟨rfl, b2⟩
  have B3 : Box w2 w1.heap.size 25 #[.slice aL 2 cL, .int .i64 2, .slice aB 1 cB] := ((B0.alloc _).alloc _).below b2 (by simp <;> omega)
  have c0 : w2.cell? ⟨w1.heap.size, 0, none⟩ = some (.slice aL 2 cL) := by simpa using B3.cell 0
  have c1 : w2.cell? ⟨w1.heap.size, 1, none⟩ = some (.int .i64 2) := by simpa using B3.cell 1
  have c2 : w2.cell? ⟨w1.heap.size, 2, none⟩ = some (.slice aB 1 cB) := by simpa using B3.cell 2
  have IL2 := Lib.hid (IL.out.below b2)
  have HB3 := Lib.hid b2
  clear b2
  go_wp2_with (fail)
  refine (ones_any 17 (.inl rfl) _ 2 aB 1 cB [-1, 3] _ IL2.out).mono ?_
  rintro e w3 ⟨rfl, b3⟩
  rw [E.out.2.2.2]
  go_wp2_with (fail)
  go_ret
  refine ⟨rfl, ?_⟩
  have g1 := HB1.out
  have g2 := HB2.out
  have g3 := HB3.out
  have s1 := g1.size
  have s2 := g3.size
  simp at s1 s2
  refine (((Below.refl w.heap.size w).alloc (Nat.le_refl _) _).trans (g1.mono (by simp))).trans ((g2.mono (by omega)).trans ((g3.mono (by simp; omega)).trans (b3.mono (by omega))))

open Classical in
/-- What both Of return: levels, zeros, before, the error. -/
noncomputable def ofSpec (zs : List Int) : List Int × Int × List Int × Int :=
  if zs.length = 4 ∨ zs.length = 15 ∨ zs.length = 16 then (if Fits zs then (lev zs, zer zs, bef zs, 0) else ([], 0, [], 3)) else ([], 0, [], 2)

theorem ints_nil (w : World) : Ints w (.slice none 0 0) [] := .inl ⟨none, 0, rfl, rfl⟩

theorem of_any (sv : Value) (zs : List Int) (w : World) (h : Ints w sv zs) :
    Calls Try.prog 11 #[sv] w fun e w' => ∃ sL sB, e = .returned (.tuple #[.agg #[sL, .int .i64 (ofSpec zs).2.1, sB], .int .i64 (ofSpec zs).2.2.2]) ∧ Ints w' sL (ofSpec zs).1 ∧ Ints w' sB (ofSpec zs).2.2.1 ∧ Below w.heap.size w w' := by
  unfold ofSpec
  by_cases hs : zs.length = 4 ∨ zs.length = 15 ∨ zs.length = 16
  · rw [if_pos hs]
    by_cases hz : Fits zs
    · rw [if_pos hz]; exact of_yes sv zs w h hz hs
    · rw [if_neg hz]; exact (of_range sv zs w h hz hs).mono fun e w' ⟨he, hb⟩ => ⟨_, _, he, ints_nil _, ints_nil _, hb⟩
  · rw [if_neg hs]; exact (of_size sv zs w h (by omega) (by omega) (by omega)).mono fun e w' ⟨he, hb⟩ => ⟨_, _, he, ints_nil _, ints_nil _, hb⟩

theorem rof_any (sv : Value) (zs : List Int) (w : World) (h : Ints w sv zs) :
    Calls Try.prog 12 #[sv] w fun e w' => ∃ sL sB, e = .returned (.tuple #[.agg #[sL, .int .i64 (ofSpec zs).2.1, sB], .int .i64 (ofSpec zs).2.2.2]) ∧ Ints w' sL (ofSpec zs).1 ∧ Ints w' sB (ofSpec zs).2.2.1 ∧ Below w.heap.size w w' := by
  unfold ofSpec
  by_cases hs : zs.length = 4 ∨ zs.length = 15 ∨ zs.length = 16
  · rw [if_pos hs]
    by_cases hz : Fits zs
    · rw [if_pos hz]; exact rof_yes sv zs w h hz hs
    · rw [if_neg hz]; exact (rof_range sv zs w h hz hs).mono fun e w' ⟨he, hb⟩ => ⟨_, _, he, ints_nil _, ints_nil _, hb⟩
  · rw [if_neg hs]; exact (rof_size sv zs w h (by omega) (by omega) (by omega)).mono fun e w' ⟨he, hb⟩ => ⟨_, _, he, ints_nil _, ints_nil _, hb⟩
end Go.Proofs.Ytcaglhodkdfncaa
