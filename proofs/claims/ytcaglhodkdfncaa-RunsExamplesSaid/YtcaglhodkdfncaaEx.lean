/- ones, and what the chapter's examples want of Of and Block. -/
import Derived.Test.YtcaglhodkdfncaaBlockBad
import Derived.Test.YtcaglhodkdfncaaBad
namespace Go.Proofs.Ytcaglhodkdfncaa
open Go.RowKit
set_option linter.unusedSimpArgs false
set_option linter.unusedVariables false

def ones16 : List Int := List.replicate 16 1
def zeros15 : List Int := List.replicate 15 0
theorem ones_step : ∀ k : Nat, k < 16 → (List.replicate k (1 : Int) ++ List.replicate (16 - k) 0).set k 1 = List.replicate (k + 1) (1 : Int) ++ List.replicate (16 - (k + 1)) 0 := by decide

theorem ints_lit {w : World} {H : Nat} (hH : w.heap.size = H) (zs : List Int) (hl : zs.length ≤ 4096) (cap : Nat) : Ints (w.alloc (.cells (zs.map (Value.int .i64)).toArray 3)) (.slice (some ⟨H, 0, none⟩) zs.length cap) zs := by
  subst hH
  exact ints_block (Box.new w 3 _) hl cap

set_option maxRecDepth 100000 in
set_option maxHeartbeats 2000000 in
theorem ones_16 (w : World) : Calls Try.prog 21 #[.int .i64 16] w fun e w' => (∃ a c, e = .returned (.slice a 16 c) ∧ Ints w' (.slice a 16 c) ones16) ∧ Below w.heap.size w w' := by
  have hmk : ∀ w : World, (Instr.makeSlice 22 (.int .i64 16) (.int .i64 16)).run Try.prog w = .ok (.slice (some ⟨w.heap.size, 0, none⟩) 16 16) (w.alloc (.cells (((List.replicate 16 (0 : Int)).map (Value.int .i64)).toArray) 3)) := fun _ => by kernel_rfl
  have HB := Lib.hid (Box.new w 3 ((List.replicate 16 (0 : Int)).map (Value.int .i64)).toArray)
  have HL : (List.replicate 16 (0 : Int)).map (Value.int .i64) = List.replicate 16 (Value.int .i64 0) := by simp
  rw [HL] at HB
  simp only [HL] at hmk
  generalize List.replicate 16 (Value.int .i64 0) = L at *
  have HL' := Lib.hid HL
  clear HL
  go_enter Try.func21, Try.ntmps21
  go_wp2_with (fail)
  go_loopw [4] (fun i wr => ∃ (k : Nat), k ≤ 16 ∧ i = .int .i64 (k : Int) ∧ Box wr w.heap.size 3 ((List.replicate k (1 : Int) ++ List.replicate (16 - k) 0).map (Value.int .i64)).toArray ∧ Below w.heap.size w wr) (fun i _ => 16 - (intOf i).toNat)
  case atStart => exact ⟨0, by omega, rfl, by rw [show (List.replicate 0 (1 : Int) ++ List.replicate (16 - 0) 0) = List.replicate 16 0 from rfl, HL'.out]; exact HB.out, (Below.refl _ _).alloc (Nat.le_refl _) _⟩
  case round =>
    obtain ⟨k, hk, rfl, hb, hB⟩ := hrel
    by_cases hlt : k < 16
    · have HS := Lib.hid (show Box (wr.setCell ⟨w.heap.size, k, none⟩ (.int .i64 1)) w.heap.size 3 ((List.replicate (k + 1) (1 : Int) ++ List.replicate (16 - (k + 1)) 0).map (Value.int .i64)).toArray from by rw [← ones_step k hlt, ← toArray_set]; exact hb.set k _)
      have HB2 := Lib.hid (hB.setCell (p := ⟨w.heap.size, k, none⟩) (Nat.le_refl _) (.int .i64 1))
      obtain ⟨y, hy⟩ : ∃ y, wr.cell? ⟨w.heap.size, k, none⟩ = some (.int .i64 y) := ⟨_, by rw [hb.cell k, List.getElem?_toArray, List.getElem?_map, List.getElem?_eq_getElem (by simp; omega)]; rfl⟩
      have hyf := hb.frozen k
      have k0 : (0 : Int) ≤ (k : Int) := by omega
      have k1 : (k : Int) < 16 := by omega
      clear hb hB
      go_wp2_with (fail)
      go_roundw
      case rel => exact ⟨k + 1, by omega, by go_num, HS.out, HB2.out⟩
      case measure => simp [intOf]; omega
    · obtain rfl : k = 16 := by omega
      have HI := Lib.hid (ints_block (zs := ones16) hb (by decide) 16)
      have HB2 := Lib.hid hB
      clear hb hB
      go_wp2_with (fail)
      go_ret
      exact ⟨⟨_, _, rfl, HI.out⟩, HB2.out⟩

theorem spec_1 : blkSpec 4 [-1, 3] 2 [1] = ([0, 3, 0, -1], 0) := by
  unfold blkSpec
  rw [if_pos (.inl rfl), if_pos (by intro v hv; simp at hv; omega), if_pos ⟨by decide, by decide, by decide, by decide, by simp, by decide, by decide, by decide⟩]
  rfl
theorem spec_2 : blkSpec 4 [-1, 3] 1 [2] = ([], 4) := by
  unfold blkSpec
  rw [if_pos (.inl rfl), if_pos (by intro v hv; simp at hv; omega), if_neg (fun h => by have := h.sum; simp at this)]
theorem spec_3 : blkSpec 4 [0] 0 [] = ([], 4) := by
  unfold blkSpec
  rw [if_pos (.inl rfl), if_pos (by intro v hv; simp at hv; omega), if_neg (fun h => h.ne 0 (by simp) rfl)]
theorem spec_4 : blkSpec 16 [1] 16 [] = ([], 4) := by
  unfold blkSpec
  rw [if_pos (.inr (.inr rfl)), if_pos (by intro v hv; simp at hv; omega), if_neg (fun h => by have := h.z1; simp at this)]
theorem spec_5 : blkSpec 5 [32769] 0 [] = ([], 2) := by
  unfold blkSpec
  rw [if_neg (by omega)]
theorem spec_6 : blkSpec 4 [-32769] (-1) [] = ([], 3) := by
  unfold blkSpec
  rw [if_pos (.inl rfl), if_neg (fun h => by have := h (-32769) (by simp); omega)]

/-- Of at a block that is in range. -/
theorem of_lit (sv : Value) (zs vs bs : List Int) (z : Int) (h : lev zs = vs ∧ zer zs = z ∧ bef zs = bs) (hf : Fits zs) (hs : zs.length = 4 ∨ zs.length = 15 ∨ zs.length = 16) (w : World) (hI : Ints w sv zs) :
    Calls Try.prog 11 #[sv] w fun e w' => (∃ aL cL aB cB, e = .returned (.tuple #[.agg #[.slice aL vs.length cL, .int .i64 z, .slice aB bs.length cB], .int .i64 0]) ∧ Ints w' (.slice aL vs.length cL) vs ∧ Ints w' (.slice aB bs.length cB) bs) ∧ Below w.heap.size w w' := by
  obtain ⟨rfl, rfl, rfl⟩ := h
  refine (of_yes sv zs w hI hf hs).mono ?_
  rintro e w' ⟨sL, sB, rfl, iL, iB, hb⟩
  obtain ⟨aL, cL, rfl⟩ := iL.form
  obtain ⟨aB, cB, rfl⟩ := iB.form
  exact ⟨⟨aL, cL, aB, cB, rfl, iL, iB⟩, hb⟩

theorem block_lit (size : Int) (sL sB : Value) (z : Int) (vs bs L : List Int) (er : Int) (hspec : blkSpec size vs z bs = (L, er)) (hL : L.length ≤ 4096) (hz0 : -9223372036854775808 ≤ z) (hz1 : z ≤ 9223372036854775807) (w : World) (h1 : Ints w sL vs) (h2 : Ints w sB bs) :
    Calls Try.prog 18 #[.int .i64 size, .agg #[sL, .int .i64 z, sB]] w fun e w' => (∃ a c, e = .returned (.tuple #[.slice a L.length c, .int .i64 er]) ∧ Ints w' (.slice a L.length c) L) ∧ Below w.heap.size w w' := by
  refine (block_any size sL sB z vs bs w h1 h2 hz0 hz1).mono ?_
  rintro e w' ⟨v, rfl, ho, hb⟩
  rw [hspec] at ho ⊢
  have hi := (ints_of_own ho hL).1
  obtain ⟨a, c, rfl⟩ := hi.form
  exact ⟨⟨a, c, rfl, hi⟩, hb⟩

end Go.Proofs.Ytcaglhodkdfncaa
