/- For every list of numbers runs.Of returns what the reference's Of returns, and the list reads as before; no conditions. -/
import Derived.Test.YtcaglhodkdfncaaRows
import Derived.WalkKit
import Derived.ProofKit
import Derived.OpenShut
import Derived.ShutString
import Derived.ChangeOld
import Derived.Below
import Derived.Test.YtcaglhodkdfncaaBad
namespace Go.Proofs.Ytcaglhodkdfncaa.runsOf
open Go.ChangeShapes Go.WideShapes Go.ChangeAt Go.RowKit
open Go.ChangeMaps (open_string shut_string)
set_option linter.unusedVariables false

theorem own : ownKnob Try.prog.godebug = none := by kernel_rfl
theorem laidOut : laidOutB Try.prog = true := by kernel_rfl

/-- WHAT THE WALK IS TOLD OF A SLICE OF INTEGERS THAT CAME IN: it is nil; or it leads to a row of 'cap' cells, the numbers 'zs' (the first 'len' are its elements, the rest its spare room), each fitting its kind. -/
def IsRow (k : IntKind) (w : World) (a : Option Addr) (len cap : Nat) (zs : List Int) : Prop :=
  (a = none ∧ len = 0 ∧ cap = 0 ∧ zs = []) ∨
  ∃ x, a = some x ∧ len ≤ cap ∧ cap ≤ maxLen ∧ zs.length = cap ∧ (∀ i, i < zs.length → w.cell? (x.add i) = some (.int k (zs.getD i 0))) ∧ ∀ n ∈ zs, (Lit.int k n).wf = true

theorem ints_of_row {w : World} {a : Option Addr} {len cap : Nat} {zs : List Int} (h : IsRow .i64 w a len cap zs) (hl : len ≤ 4096) : Ints w (.slice a len cap) (zs.take len) := by
  rcases h with ⟨rfl, rfl, rfl, rfl⟩ | ⟨x, rfl, h1, h2, h3, h4, _⟩
  · exact .inl ⟨none, 0, rfl, rfl⟩
  · by_cases h0 : len = 0
    · subst h0; exact .inl ⟨some x, cap, rfl, rfl⟩
    · obtain ⟨b, off, spot⟩ := x
      have hc := h4 0 (by omega)
      have hspot : spot = none := by simpa [Addr.add] using World.cell?_spot hc
      subst hspot
      have hlen : (zs.take len).length = len := by simp; omega
      refine .inr ⟨b, off, cap, by rw [hlen], by omega, by omega, fun j hj => ?_⟩
      have := h4 j (by omega)
      have hadd : (⟨b, off, none⟩ : Addr).add j = ⟨b, off + j, none⟩ := by unfold Addr.add; split <;> simp_all
      rw [hadd] at this
      rw [this, List.getElem?_take, if_pos (by omega), List.getD_eq_getElem?_getD]

theorem row_len {k : IntKind} {w : World} {a : Option Addr} {len cap : Nat} {zs : List Int} (h : IsRow k w a len cap zs) : (zs.take len).length = len := by
  rcases h with ⟨rfl, rfl, rfl, rfl⟩ | ⟨x, rfl, h1, h2, h3, _, _⟩
  · rfl
  · simp; omega

/-! ### STEP 1: THE WALK: the Go text returns true, AND WRITES NOTHING THAT WAS THERE: 'Below w.heap.size w w'' (Derived/Below.lean: '.refl', '.alloc', '.drew', '.setCell' at a new block, '.trans'). Open each 'IsRow' by 'rcases' AHEAD of 'go_enter'; part every test ahead of the walk. -/
theorem walk (a0 : Option Addr) (len0 cap0 : Nat) (z0 : List Int) (w : World) (w0 : IsRow .i64 w a0 len0 cap0 z0) :
    Calls Try.prog 3 #[.slice a0 len0 cap0] w fun e w' => e = .returned (.bool true) ∧ Below w.heap.size w w' := by
  by_cases h40 : len0 ≤ 40
  · have hI := ints_of_row w0 (by omega)
    obtain ⟨zs, hzs⟩ : ∃ zs, zs = z0.take len0 := ⟨_, rfl⟩
    have hlen : zs.length = len0 := by rw [hzs]; exact row_len w0
    rw [← hzs] at hI
    subst hlen
    have HI := Lib.hid hI
    have hg : ¬ (40 < zs.length) := by omega
    clear hzs hI w0
    go_enter Try.func3, Try.ntmps3
    go_wp2_with (fail)
    refine (copyInts _ zs _ HI.out).mono ?_
    rintro e w1 ⟨v1, rfl, o1, b1⟩
    have I1 := (ints_of_own o1 HI.out.len).1
    obtain ⟨a1, c1, rfl⟩ := I1.form
    have J1 := Lib.hid I1
    have B1 := Lib.hid b1
    have IL := Lib.hid (HI.out.below b1)
    clear o1 I1 b1
    go_wp2_with (fail)
    refine (of_any _ zs _ J1.out).mono ?_
    rintro e w2 ⟨sL, sB, rfl, iL, iB, b2⟩
    obtain ⟨S, hS⟩ : ∃ S, S = ofSpec zs := ⟨_, rfl⟩
    rw [← hS] at iL iB ⊢
    have HS := Lib.hid hS
    clear hS
    obtain ⟨vs, z, bs, er⟩ := S
    simp only at iL iB ⊢
    obtain ⟨aL, cL, rfl⟩ := iL.form
    obtain ⟨aB, cB, rfl⟩ := iB.form
    have J2 := Lib.hid (J1.out.below b2)
    have L2 := Lib.hid (IL.out.below b2)
    have B2 := Lib.hid b2
    have A2 := Lib.hid iL
    have E2 := Lib.hid iB
    clear b2 iL iB
    go_wp2_with (fail)
    have hb3 : Below w2.heap.size w2 (w2.alloc (.cells #[.slice aL vs.length cL, .int .i64 z, .slice aB bs.length cB] 25)) := (Below.refl _ w2).alloc (Nat.le_refl _) _
    refine (rof_any _ zs _ (L2.out.below hb3)).mono ?_
    rintro e w3 ⟨sL', sB', rfl, iL', iB', b3⟩
    rw [← HS.out] at iL' iB' ⊢
    simp only at iL' iB' ⊢
    obtain ⟨aL', cL', rfl⟩ := iL'.form
    obtain ⟨aB', cB', rfl⟩ := iB'.form
    have X3 : Box w3 w2.heap.size 25 #[.slice aL vs.length cL, .int .i64 z, .slice aB bs.length cB] := (Box.new w2 25 _).below b3 (by simp)
    have J3 := Lib.hid ((J2.out.below hb3).below b3)
    have L3 := Lib.hid ((L2.out.below hb3).below b3)
    have A3 := Lib.hid ((A2.out.below hb3).below b3)
    have E3 := Lib.hid ((E2.out.below hb3).below b3)
    have A3' := Lib.hid iL'
    have E3' := Lib.hid iB'
    have B3 := Lib.hid ((hb3.trans (b3.mono (by simp))))
    have x0 : w3.cell? ⟨w2.heap.size, 0, none⟩ = some (.slice aL vs.length cL) := by simpa using X3.cell 0
    have x1 : w3.cell? ⟨w2.heap.size, 1, none⟩ = some (.int .i64 z) := by simpa using X3.cell 1
    have x2 : w3.cell? ⟨w2.heap.size, 2, none⟩ = some (.slice aB bs.length cB) := by simpa using X3.cell 2
    have hlt3 : w2.heap.size < w3.heap.size := X3.lt
    clear hb3 b3 iL' iB'
    have he : (er == er) = true := by simp
    go_wp2_with (fail)
    have hb4 : Below w3.heap.size w3 (w3.alloc (.cells #[.slice aL' vs.length cL', .int .i64 z, .slice aB' bs.length cB'] 25)) := (Below.refl _ w3).alloc (Nat.le_refl _) _
    refine (equalRuns_same _ _ _ _ z vs bs _ (A3.out.below hb4) (E3.out.below hb4) (A3'.out.below hb4) (E3'.out.below hb4)).mono ?_
    rintro e w4 ⟨rfl, b4⟩
    have J4 := Lib.hid ((J3.out.below hb4).below b4)
    have L4 := Lib.hid ((L3.out.below hb4).below b4)
    have B4 := Lib.hid (hb4.trans (b4.mono (by simp)))
    clear hb4 b4
    go_wp2_with (fail)
    refine (equalInts_same _ _ zs _ J4.out L4.out).mono ?_
    rintro e w5 ⟨rfl, b5⟩
    have B5 := Lib.hid b5
    clear b5
    go_wp2_with (fail)
    refine (awake_yes _).mono ?_
    rintro e w6 ⟨rfl, b6⟩
    have B6 := Lib.hid b6
    clear b6
    go_wp2_with (fail)
    go_ret
    refine ⟨rfl, ?_⟩
    have s1 := B1.out.size
    have s2 := B2.out.size
    have s3 := B3.out.size
    have s4 := B4.out.size
    have s5 := B5.out.size
    exact B1.out.trans ((B2.out.mono (by omega)).trans ((B3.out.mono (by omega)).trans ((B4.out.mono (by omega)).trans ((B5.out.mono (by omega)).trans (B6.out.mono (by omega))))))
  · have hg : 40 < len0 := by omega
    have hgg := hg
    go_enter Try.func3, Try.ntmps3
    go_wp2
    go_ret
    exact ⟨rfl, Below.refl _ _⟩

/-! ### THE ROW's STEP: WRITTEN OUT: LEAVE IT -/
set_option maxRecDepth 100000 in
theorem lifted (os : Os) (started : os.Started) (H : Type) (enc : TypeId × Value → H) :
    ReturnsInHanded {} Try.checked os 3 .any (Rows.runsOfSpec.pre6 enc Try.prog Try.f3 Rows.runsOfRow.domain false) (Rows.runsOfSpec.post enc Try.prog Try.f3 false true false false) := by
  refine returnsInHanded_of_change (C := Try.checked) own started (by kernel_rfl) Try.func3
    (ChangeSpec.witness6 (enc := enc) (C := Try.checked) false ⟨#[], #[.slice none 0 0], []⟩ 8 (by kernel_rfl) (by kernel_rfl) (by kernel_rfl) (by kernel_rfl)) ?_
  intro W base args ds gs before hval0 hW hcnd _
  have hval : ∀ (j : Nat) t v, Try.f3.params[j]? = some t → args[j]? = some v → Value.okWide Try.prog W .any base t v := hval0
  have hW' := hW
  obtain ⟨p, q, hA0, hV, rfl, hfz, hnd⟩ := hW
  have hA : DataW.TrodAll enc Try.prog W 0 (fun _ => true) true Try.f3.params.toList args.toList ds p := hA0
  rw [Try.params3] at hA hval
  obtain ⟨v0, vs0, d0, ds0, p0, q0, hargs, rfl, rfl, h0, r0⟩ := trodAll_cons hA
  obtain ⟨rfl, rfl, rfl⟩ := trodAll_nil r0
  obtain rfl : args = #[v0] := by cases args; simp_all
  obtain ⟨rfl, rfl⟩ := trodVars_none hV
  obtain ⟨a0, len0, cap0, rfl⟩ := okWide_slice Try.underlying22 (hval 0 22 v0 rfl rfl)
  have k0 := h0
  have lt0 : ∀ x ∈ p0, x.block < W.heap.size := by obtain ⟨m, hm⟩ := k0; exact DataW.trod_lt m _ _ _ hm
  obtain ⟨z0, w0⟩ : ∃ zs, IsRow .i64 W a0 len0 cap0 zs := by
    obtain ⟨fuel, hf⟩ := h0
    rcases open_ints Try.underlying22 Try.underlying3 (by kernel_rfl) hf with ⟨hcs, _⟩ | ⟨x, l, c, zs, hcs, _, hl, hm, hz, _, hcell, hwz⟩
    · simp [Value.cells] at hcs
      obtain ⟨rfl, rfl, rfl⟩ := hcs
      exact ⟨[], .inl ⟨rfl, rfl, rfl, rfl⟩⟩
    · simp [Value.cells] at hcs
      obtain ⟨rfl, rfl, rfl⟩ := hcs
      exact ⟨zs, .inr ⟨_, rfl, hl, hm, by simpa using hz, hcell, hwz⟩⟩
  clear hA0 hval0
  refine (walk a0 len0 cap0 z0 W w0).mono fun e W' ⟨he, bel⟩ => ?_
  subst he
  exact ⟨_, rfl, _, _, _, [], _, [], hW', trodAll_mk1 (shut_bool Try.underlying4 _), (trodAll_cons_mk (Below.trod laidOut (by kernel_rfl) (of_decide_eq_true (by kernel_rfl)) k0 bel lt0) trodAll_mk0), rfl, bel.frame _, fun h => by cases h⟩

theorem over : Rows.runsOfRow.holds Try.pinned (OpenSpec.ofChange Rows.runsOfSpec) :=
  OpenClaim.holds_of_wide 3 Try.f3 rfl rfl rfl rfl rfl rfl rfl ⟨rfl, rfl, rfl, rfl, rfl⟩ rfl rfl rfl rfl rfl (by kernel_rfl) Try.func3 (by kernel_rfl)
    (of_decide_eq_true (by kernel_rfl)) (by unfold Func.isWrapper; first | (rw [if_pos (by decide +kernel)]; kernel_rfl) | (rw [if_neg (by decide +kernel)]; exact ⟨rfl, rfl⟩))
    (fun os started H enc _ => lifted os started H enc)

/-- ████ THE STATEMENT ████ -/
theorem proved : Rows.RunsOfSaid := over
#print axioms proved
end Go.Proofs.Ytcaglhodkdfncaa.runsOf
