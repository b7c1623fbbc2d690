/- A slice of integers that comes in as a law's argument; the law's own function sized makes a block of it. -/
import Derived.Test.YtcaglhodkdfncaaXs
import Derived.OpenShut
namespace Go.Proofs.Ytcaglhodkdfncaa
open Go.RowKit

/-- What a walk is told of a slice of integers that came in. -/
def IsRow (k : IntKind) (w : World) (a : Option Addr) (len cap : Nat) (zs : List Int) : Prop :=
  (a = none ∧ len = 0 ∧ cap = 0 ∧ zs = []) ∨
  ∃ x, a = some x ∧ len ≤ cap ∧ cap ≤ maxLen ∧ zs.length = cap ∧ (∀ i, i < zs.length → w.cell? (x.add i) = some (.int k (zs.getD i 0))) ∧ ∀ n ∈ zs, (Lit.int k n).wf = true

theorem ints_of_row {w : World} {a : Option Addr} {len cap : Nat} {zs : List Int} (h : IsRow .i64 w a len cap zs) (hl : len ≤ 4096) : Ints w (.slice a len cap) (zs.take len) := by
  rcases h with ⟨rfl, rfl, rfl, rfl⟩ | ⟨x, rfl, h1, h2, h3, h4, _⟩
  · exact .inl ⟨none, 0, rfl, rfl⟩
  · by_cases h0 : len = 0
    · subst h0; exact .inl ⟨some x, cap, rfl, rfl⟩
    · obtain ⟨b, off, spot⟩ := x
      have hc := h4 0 (by omega)
      have hspot : spot = none := by simpa [Addr.add] using World.cell?_spot hc
      subst hspot
      have hlen : (zs.take len).length = len := by simp; omega
      refine .inr ⟨b, off, cap, by rw [hlen], by omega, by omega, fun j hj => ?_⟩
      have := h4 j (by omega)
      have hadd : (⟨b, off, none⟩ : Addr).add j = ⟨b, off + j, none⟩ := by unfold Addr.add; split <;> simp_all
      rw [hadd] at this
      rw [this, List.getElem?_take, if_pos (by omega), List.getD_eq_getElem?_getD]

theorem row_len {k : IntKind} {w : World} {a : Option Addr} {len cap : Nat} {zs : List Int} (h : IsRow k w a len cap zs) : (zs.take len).length = len := by
  rcases h with ⟨rfl, rfl, rfl, rfl⟩ | ⟨x, rfl, h1, h2, h3, _, _⟩
  · rfl
  · simp; omega

theorem row_at {w : World} {a : Option Addr} {len cap : Nat} {zs : List Int} (h : IsRow .i16 w a len cap zs) {j : Nat} (hj : j < len) :
    ∃ b off x, a = some ⟨b, off, none⟩ ∧ w.cell? ⟨b, off + j, none⟩ = some (.int .i16 x) ∧ -32768 ≤ x ∧ x ≤ 32767 := by
  rcases h with ⟨rfl, rfl, rfl, rfl⟩ | ⟨⟨b, off, spot⟩, rfl, h1, h2, h3, h4, h5⟩
  · omega
  · have hc := h4 j (by omega)
    have h0 := h4 0 (by omega)
    have hspot : spot = none := by simpa [Addr.add] using World.cell?_spot h0
    subst hspot
    have hadd : (⟨b, off, none⟩ : Addr).add j = ⟨b, off + j, none⟩ := by unfold Addr.add; split <;> simp_all
    rw [hadd] at hc
    have hw := h5 (zs.getD j 0) (by rw [List.getD_eq_getElem?_getD, List.getElem?_eq_getElem (by omega)]; exact List.getElem_mem _)
    refine ⟨b, off, _, rfl, hc, ?_⟩
    exact bounds_i16 hw

theorem own_of_box {w : World} {g base cap : Nat} {zs : List Int} (h : Box w g 3 (zs.map (Value.int .i64)).toArray) (hb : base ≤ g) (hc : cap = zs.length) (hl : zs.length ≤ 4096) :
    w.ownsRow base 3 1 (.slice (some ⟨g, 0, none⟩) zs.length cap) zs.length (zs.map (Value.int .i64)) := by
  subst hc
  exact ⟨by simp, .inr ⟨g, zs.length, _, rfl, hb, h, Nat.le_refl _, by simp [maxLen]; omega, by simp, by rw [List.take_of_length_le (by simp)]⟩⟩

theorem toArray_set {zs : List Int} {j : Nat} {x : Int} : (zs.map (Value.int .i64)).toArray.setIfInBounds j (.int .i64 x) = ((zs.set j x).map (Value.int .i64)).toArray := by
  simp

def Fits16 (zs : List Int) : Prop := ∀ v ∈ zs, -32768 ≤ v ∧ v ≤ 32767

theorem fits16_set {zs : List Int} (h : Fits16 zs) {x : Int} (h1 : -32768 ≤ x) (h2 : x ≤ 32767) (j : Nat) : Fits16 (zs.set j x) := by
  intro v hv
  rcases List.mem_or_eq_of_mem_set hv with hv | rfl
  · exact h v hv
  · exact ⟨h1, h2⟩

set_option maxRecDepth 100000 in
set_option maxHeartbeats 2000000 in
theorem lsized (a0 : Option Addr) (len0 cap0 : Nat) (z0 : List Int) (a1 : Int) (w : World) (w0 : IsRow .i16 w a0 len0 cap0 z0) (hlen0 : len0 ≤ 9223372036854775807) (w1 : (Lit.int .u8 a1).wf = true) :
    Calls Try.prog 16 #[.slice a0 len0 cap0, .int .u8 a1] w fun e w' => ∃ (v : Value) (zs : List Int), e = .returned v ∧ w'.ownsRow w.heap.size 3 1 v zs.length (zs.map (Value.int .i64)) ∧ (zs.length = 4 ∨ zs.length = 15 ∨ zs.length = 16) ∧ Fits16 zs ∧ Below w.heap.size w w' := by
  obtain ⟨b0, b1⟩ := bounds_u8 w1
  have h3 : a1 % 3 = 0 ∨ a1 % 3 = 1 ∨ a1 % 3 = 2 := by omega
  have W0 := Lib.hid w0
  clear w0 w1
  have hm4 : ∀ w : World, (Instr.makeSlice 22 (.int .i64 4) (.int .i64 4)).run Try.prog w = .ok (.slice (some ⟨w.heap.size, 0, none⟩) 4 4) (w.alloc (.cells (((List.replicate 4 (0 : Int)).map (Value.int .i64)).toArray) 3)) := fun _ => by kernel_rfl
  have hm15 : ∀ w : World, (Instr.makeSlice 22 (.int .i64 15) (.int .i64 15)).run Try.prog w = .ok (.slice (some ⟨w.heap.size, 0, none⟩) 15 15) (w.alloc (.cells (((List.replicate 15 (0 : Int)).map (Value.int .i64)).toArray) 3)) := fun _ => by kernel_rfl
  have hm16 : ∀ w : World, (Instr.makeSlice 22 (.int .i64 16) (.int .i64 16)).run Try.prog w = .ok (.slice (some ⟨w.heap.size, 0, none⟩) 16 16) (w.alloc (.cells (((List.replicate 16 (0 : Int)).map (Value.int .i64)).toArray) 3)) := fun _ => by kernel_rfl
  rcases h3 with h3 | h3 | h3
  · go_enter Try.func16, Try.ntmps16
    go_wp2
    clear hm4 hm15 hm16 h3
    go_loopw [6] (fun i wr => ∃ (k : Nat) (zs : List Int), k ≤ 4 ∧ i = .int .i64 k ∧ zs.length = 4 ∧ Fits16 zs ∧ Box wr (w.heap.size + 1) 3 (zs.map (Value.int .i64)).toArray ∧ Below w.heap.size w wr) (fun i _ => 4 - (intOf i).toNat)
    case atStart =>
      have hb := Box.new (w.alloc (.cells #[.int .i64 4, .int .i64 15, .int .i64 16] 3)) 3 ((List.replicate 4 (0 : Int)).map (Value.int .i64)).toArray
      rw [World.size_alloc] at hb
      exact ⟨0, List.replicate 4 0, by omega, rfl, by decide, by intro v hv; simp at hv; omega, hb, ((Below.refl _ w).alloc (Nat.le_refl _) _).alloc (by simp) _⟩
    case round =>
      obtain ⟨k, zs, hk, rfl, hl, hf, hb, hB⟩ := hrel
      have HL := Lib.hid hl
      have HF := Lib.hid hf
      clear hf
      by_cases h1 : k < 4
      · by_cases h2 : k < len0
        · obtain ⟨b, off, x, rfl, hc, x1, x2⟩ := row_at W0.out h2
          have hcx := (hB.cell (p := ⟨b, off + k, none⟩) (World.block_lt_of_cell? _ _ hc)).trans hc
          obtain ⟨y, hy⟩ : ∃ y, wr.cell? ⟨w.heap.size + 1, k, none⟩ = some (.int .i64 y) := ⟨zs[k]'(by omega), by rw [hb.cell k]; simp⟩
          have hyf := hb.frozen k
          have HS := Lib.hid (show Box (wr.setCell ⟨w.heap.size + 1, k, none⟩ (.int .i64 x)) (w.heap.size + 1) 3 ((zs.set k x).map (Value.int .i64)).toArray from by rw [← toArray_set]; exact hb.set k _)
          have HB2 := Lib.hid (hB.setCell (p := ⟨w.heap.size + 1, k, none⟩) (by simp) (.int .i64 x))
          have HC := Lib.hid hc
          clear hc hb hl
          go_wp2
          go_roundw
          case rel =>
            exact ⟨k + 1, zs.set k x, by omega, by go_num, by rw [List.length_set]; exact HL.out, fits16_set HF.out x1 x2 k, HS.out, HB2.out⟩
          case measure => simp [intOf]; omega
        · have HBX := Lib.hid hb
          clear hb hl
          go_wp2
          go_ret
          have ho := own_of_box (cap := 4) (base := w.heap.size) HBX.out (by omega) HL.out.symm (by have := HL.out; omega)
          rw [HL.out] at ho
          exact ⟨_, zs, rfl, by rw [HL.out]; exact ho, by rw [HL.out]; omega, HF.out, hB⟩
      · have HBX := Lib.hid hb
        clear hb hl
        obtain rfl : k = 4 := by omega
        go_wp2
        go_ret
        have ho := own_of_box (cap := 4) (base := w.heap.size) HBX.out (by omega) HL.out.symm (by have := HL.out; omega)
        rw [HL.out] at ho
        exact ⟨_, zs, rfl, by rw [HL.out]; exact ho, by rw [HL.out]; omega, HF.out, hB⟩
  · go_enter Try.func16, Try.ntmps16
    go_wp2
    clear hm4 hm15 hm16 h3
    go_loopw [6] (fun i wr => ∃ (k : Nat) (zs : List Int), k ≤ 15 ∧ i = .int .i64 k ∧ zs.length = 15 ∧ Fits16 zs ∧ Box wr (w.heap.size + 1) 3 (zs.map (Value.int .i64)).toArray ∧ Below w.heap.size w wr) (fun i _ => 15 - (intOf i).toNat)
    case atStart =>
      have hb := Box.new (w.alloc (.cells #[.int .i64 4, .int .i64 15, .int .i64 16] 3)) 3 ((List.replicate 15 (0 : Int)).map (Value.int .i64)).toArray
      rw [World.size_alloc] at hb
      exact ⟨0, List.replicate 15 0, by omega, rfl, by decide, by intro v hv; simp at hv; omega, hb, ((Below.refl _ w).alloc (Nat.le_refl _) _).alloc (by simp) _⟩
    case round =>
      obtain ⟨k, zs, hk, rfl, hl, hf, hb, hB⟩ := hrel
      have HL := Lib.hid hl
      have HF := Lib.hid hf
      clear hf
      by_cases h1 : k < 15
      · by_cases h2 : k < len0
        · obtain ⟨b, off, x, rfl, hc, x1, x2⟩ := row_at W0.out h2
          have hcx := (hB.cell (p := ⟨b, off + k, none⟩) (World.block_lt_of_cell? _ _ hc)).trans hc
          obtain ⟨y, hy⟩ : ∃ y, wr.cell? ⟨w.heap.size + 1, k, none⟩ = some (.int .i64 y) := ⟨zs[k]'(by omega), by rw [hb.cell k]; simp⟩
          have hyf := hb.frozen k
          have HS := Lib.hid (show Box (wr.setCell ⟨w.heap.size + 1, k, none⟩ (.int .i64 x)) (w.heap.size + 1) 3 ((zs.set k x).map (Value.int .i64)).toArray from by rw [← toArray_set]; exact hb.set k _)
          have HB2 := Lib.hid (hB.setCell (p := ⟨w.heap.size + 1, k, none⟩) (by simp) (.int .i64 x))
          have HC := Lib.hid hc
          clear hc hb hl
          go_wp2
          go_roundw
          case rel =>
            exact ⟨k + 1, zs.set k x, by omega, by go_num, by rw [List.length_set]; exact HL.out, fits16_set HF.out x1 x2 k, HS.out, HB2.out⟩
          case measure => simp [intOf]; omega
        · have HBX := Lib.hid hb
          clear hb hl
          go_wp2
          go_ret
          have ho := own_of_box (cap := 15) (base := w.heap.size) HBX.out (by omega) HL.out.symm (by have := HL.out; omega)
          rw [HL.out] at ho
          exact ⟨_, zs, rfl, by rw [HL.out]; exact ho, by rw [HL.out]; omega, HF.out, hB⟩
      · have HBX := Lib.hid hb
        clear hb hl
        obtain rfl : k = 15 := by omega
        go_wp2
        go_ret
        have ho := own_of_box (cap := 15) (base := w.heap.size) HBX.out (by omega) HL.out.symm (by have := HL.out; omega)
        rw [HL.out] at ho
        exact ⟨_, zs, rfl, by rw [HL.out]; exact ho, by rw [HL.out]; omega, HF.out, hB⟩
  · go_enter Try.func16, Try.ntmps16
    go_wp2
    clear hm4 hm15 hm16 h3
    go_loopw [6] (fun i wr => ∃ (k : Nat) (zs : List Int), k ≤ 16 ∧ i = .int .i64 k ∧ zs.length = 16 ∧ Fits16 zs ∧ Box wr (w.heap.size + 1) 3 (zs.map (Value.int .i64)).toArray ∧ Below w.heap.size w wr) (fun i _ => 16 - (intOf i).toNat)
    case atStart =>
      have hb := Box.new (w.alloc (.cells #[.int .i64 4, .int .i64 15, .int .i64 16] 3)) 3 ((List.replicate 16 (0 : Int)).map (Value.int .i64)).toArray
      rw [World.size_alloc] at hb
      exact ⟨0, List.replicate 16 0, by omega, rfl, by decide, by intro v hv; simp at hv; omega, hb, ((Below.refl _ w).alloc (Nat.le_refl _) _).alloc (by simp) _⟩
    case round =>
      obtain ⟨k, zs, hk, rfl, hl, hf, hb, hB⟩ := hrel
      have HL := Lib.hid hl
      have HF := Lib.hid hf
      clear hf
      by_cases h1 : k < 16
      · by_cases h2 : k < len0
        · obtain ⟨b, off, x, rfl, hc, x1, x2⟩ := row_at W0.out h2
          have hcx := (hB.cell (p := ⟨b, off + k, none⟩) (World.block_lt_of_cell? _ _ hc)).trans hc
          obtain ⟨y, hy⟩ : ∃ y, wr.cell? ⟨w.heap.size + 1, k, none⟩ = some (.int .i64 y) := ⟨zs[k]'(by omega), by rw [hb.cell k]; simp⟩
          have hyf := hb.frozen k
          have HS := Lib.hid (show Box (wr.setCell ⟨w.heap.size + 1, k, none⟩ (.int .i64 x)) (w.heap.size + 1) 3 ((zs.set k x).map (Value.int .i64)).toArray from by rw [← toArray_set]; exact hb.set k _)
          have HB2 := Lib.hid (hB.setCell (p := ⟨w.heap.size + 1, k, none⟩) (by simp) (.int .i64 x))
          have HC := Lib.hid hc
          clear hc hb hl
          go_wp2
          go_roundw
          case rel =>
            exact ⟨k + 1, zs.set k x, by omega, by go_num, by rw [List.length_set]; exact HL.out, fits16_set HF.out x1 x2 k, HS.out, HB2.out⟩
          case measure => simp [intOf]; omega
        · have HBX := Lib.hid hb
          clear hb hl
          go_wp2
          go_ret
          have ho := own_of_box (cap := 16) (base := w.heap.size) HBX.out (by omega) HL.out.symm (by have := HL.out; omega)
          rw [HL.out] at ho
          exact ⟨_, zs, rfl, by rw [HL.out]; exact ho, by rw [HL.out]; omega, HF.out, hB⟩
      · have HBX := Lib.hid hb
        clear hb hl
        obtain rfl : k = 16 := by omega
        go_wp2
        go_ret
        have ho := own_of_box (cap := 16) (base := w.heap.size) HBX.out (by omega) HL.out.symm (by have := HL.out; omega)
        rw [HL.out] at ho
        exact ⟨_, zs, rfl, by rw [HL.out]; exact ho, by rw [HL.out]; omega, HF.out, hB⟩
end Go.Proofs.Ytcaglhodkdfncaa
