/- How a block is filled from its levels and runs, step by step. Lists and integers alone. -/
import Derived.Test.YtcaglhodkdfncaaPlain
namespace Go.Proofs.Ytcaglhodkdfncaa

/-- The block when i levels have been put. -/
def Fil (size : Nat) (vs : List Int) (z : Int) (bs : List Int) (i : Nat) : List Int :=
  List.replicate ((vs.length : Int) + z - i - (bs.take i).sum).toNat 0 ++ suf (vs.take i) (bs.take i) ++ List.replicate (size - vs.length - z.toNat) 0

theorem fil_zero {size : Nat} {vs : List Int} {z : Int} {bs : List Int} (h0 : 0 ≤ z) (h1 : vs.length + z ≤ size) : Fil size vs z bs 0 = List.replicate size 0 := by
  simp [Fil, suf]; omega

theorem fil_last {size : Nat} {vs : List Int} {z : Int} {bs : List Int} (hb : bs.length = vs.length - 1) : Fil size vs z bs vs.length = blk size vs z bs := by
  unfold Fil blk
  rw [List.take_length, List.take_of_length_le (by omega)]
  congr 3; omega

theorem set_after (a : Nat) (v : Int) (r : List Int) : (List.replicate (a + 1) 0 ++ r).set a v = List.replicate a 0 ++ [v] ++ r := by
  rw [List.set_append_left _ _ (by simp)]
  congr 1
  induction a with
  | zero => rfl
  | succ a ih => rw [List.replicate_succ, List.set_cons_succ, ih]; simp [List.replicate_succ]

theorem take_snoc {l : List Int} {i : Nat} {v : Int} (hi : i < l.length) (h : l[i]?.getD 0 = v) : l.take (i + 1) = l.take i ++ [v] := by
  rw [List.take_succ_eq_append_getElem hi]
  congr 2
  simpa [hi] using h

theorem fil_step {size : Nat} {vs : List Int} {z : Int} {bs : List Int} {i : Nat} {v b : Int} (hi : i < vs.length) (hb : bs.length = vs.length - 1) (hv : vs[i]?.getD 0 = v) (hbi : bs[i]?.getD 0 = b)
    (h0 : 0 ≤ b) (hat : b ≤ (vs.length : Int) + z - 1 - i - (bs.take i).sum) :
    (Fil size vs z bs i).set ((vs.length : Int) + z - 1 - i - (bs.take i).sum).toNat v = Fil size vs z bs (i + 1) := by
  unfold Fil
  obtain ⟨a, ha⟩ : ∃ a : Nat, (a : Int) = (vs.length : Int) + z - 1 - i - (bs.take i).sum := ⟨((vs.length : Int) + z - 1 - i - (bs.take i).sum).toNat, by omega⟩
  rw [show ((vs.length : Int) + z - i - (bs.take i).sum).toNat = a + 1 from by omega, show ((vs.length : Int) + z - 1 - i - (bs.take i).sum).toNat = a from by omega]
  rw [List.append_assoc, set_after, take_snoc hi hv]
  by_cases hlt : i < bs.length
  · rw [take_snoc hlt hbi, suf_snoc v b _ _ (by simp; omega), List.sum_append]
    have e : a = (((vs.length : Int) + z - ((i + 1 : Nat) : Int) - ((bs.take i).sum + [b].sum)).toNat) + b.toNat := by
      simp only [List.sum_cons, List.sum_nil]; omega
    conv => lhs; rw [e, ← List.replicate_append_replicate]
    simp only [List.append_assoc]
  · have hbe : i = bs.length := by omega
    have hb0 : b = 0 := by rw [← hbi, List.getElem?_eq_none (by omega)]; rfl
    rw [List.take_of_length_le (show bs.length ≤ i + 1 by omega), List.take_of_length_le (show bs.length ≤ i by omega), suf_last v _ _ (by simp; omega)]
    rw [List.take_of_length_le (show bs.length ≤ i by omega)] at ha
    rw [show (((vs.length : Int) + z - ((i + 1 : Nat) : Int) - bs.sum).toNat) = a from by omega]
    simp

theorem fil_length {size : Nat} {vs : List Int} {z : Int} {bs : List Int} (h : Poss size vs z bs) : ∀ i, i ≤ vs.length → (Fil size vs z bs i).length = size := by
  intro i hi
  have h1 := h.len
  have h2 := h.z0
  have h3 := h.z1
  have h4 := h.sum
  have h5 := (sum_take bs h.nn i)
  have hs := suf_length (vs.take i) (bs.take i) (fun b hb => h.nn b (List.mem_of_mem_take hb)) (by have := h.bef; simp; omega)
  unfold Fil
  simp only [List.length_append, List.length_replicate]
  have : (vs.take i).length = i := by simp; omega
  rw [this] at hs
  omega

/-- Where a level stands that is in a possible block. -/
theorem poss_at {size : Nat} {vs : List Int} {z : Int} {bs : List Int} (h : Poss size vs z bs) (i : Nat) (hi : i < vs.length) :
    bs[i]?.getD 0 ≤ (vs.length : Int) + z - 1 - i - (bs.take i).sum ∧ 0 ≤ bs[i]?.getD 0 := by
  have h4 := h.sum
  by_cases hlt : i < bs.length
  · have h5 := (sum_take bs h.nn (i + 1))
    rw [sum_take_succ bs i hlt] at h5
    have h6 : 0 ≤ bs[i]?.getD 0 := by simp [hlt]; exact h.nn _ (List.getElem_mem hlt)
    omega
  · have h5 := (sum_take bs h.nn i)
    rw [List.getElem?_eq_none (by omega)]
    simp; omega

theorem poss_b {size : Nat} {vs : List Int} {z : Int} {bs : List Int} (h : Poss size vs z bs) (i : Nat) (hi : i < bs.length) : 0 ≤ bs[i]?.getD 0 ∧ bs[i]?.getD 0 ≤ z := by
  have h5 := (sum_take bs h.nn (i + 1))
  rw [sum_take_succ bs i hi] at h5
  have h7 := (sum_take bs h.nn i)
  have h6 : 0 ≤ bs[i]?.getD 0 := by simp [hi]; exact h.nn _ (List.getElem_mem hi)
  have := h.sum
  omega

theorem poss_v {size : Nat} {vs : List Int} {z : Int} {bs : List Int} (h : Poss size vs z bs) (i : Nat) (hi : i < vs.length) : vs[i]?.getD 0 ≠ 0 := by
  simp [hi]; exact h.ne _ (List.getElem_mem hi)

theorem all_of_get {P : Int → Prop} {l : List Int} (h : ∀ j, j < l.length → P (l[j]?.getD 0)) : ∀ v ∈ l, P v := by
  intro v hv
  obtain ⟨j, hj, rfl⟩ := List.getElem_of_mem hv
  have := h j hj
  simpa [hj] using this

end Go.Proofs.Ytcaglhodkdfncaa
