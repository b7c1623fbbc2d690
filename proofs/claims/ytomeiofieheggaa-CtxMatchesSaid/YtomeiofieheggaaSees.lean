/- A slice of bits that contexts see; what a table is after them. -/
import Derived.Test.YtomeiofieheggaaActs
import Derived.Deep.SlicePairs
import Derived.OpenShut
namespace Go.Proofs.Ytomeiofieheggaa
open Go.RowKit
set_option linter.unusedSimpArgs false
set_option linter.unusedVariables false

/-- The slice at a holds n pairs: a context's number, a bit. -/
def Sees (w : World) (a : Option Addr) (n : Nat) (I B : Nat → Int) : Prop :=
  n = 0 ∨ ∃ b off, a = some ⟨b, off, none⟩ ∧ ∀ i, i < n → (w.cell? ⟨b, off + i * 2, none⟩ = some (.int .i64 (I i)) ∧ w.cell? ⟨b, off + i * 2 + 1, none⟩ = some (.int .u8 (B i))) ∧
    (-9223372036854775808 ≤ I i ∧ I i ≤ 9223372036854775807 ∧ 0 ≤ B i ∧ B i ≤ 255)

theorem Sees.at' {w : World} {a : Option Addr} {n : Nat} {I B : Nat → Int} (h : Sees w a n I B) {i : Nat} (hi : i < n) :
    ∃ b off, a = some ⟨b, off, none⟩ ∧ b < w.heap.size ∧ w.cell? ⟨b, off + i * 2, none⟩ = some (.int .i64 (I i)) ∧ w.cell? ⟨b, off + i * 2 + 1, none⟩ = some (.int .u8 (B i)) ∧ -9223372036854775808 ≤ I i ∧ I i ≤ 9223372036854775807 ∧ 0 ≤ B i ∧ B i ≤ 255 := by
  rcases h with rfl | ⟨b, off, e, hc⟩
  · omega
  · obtain ⟨⟨h1, h2⟩, h3⟩ := hc i hi
    exact ⟨b, off, e, World.block_lt_of_cell? _ _ h1, h1, h2, h3⟩

theorem Sees.below {w w' : World} {a : Option Addr} {n N : Nat} {I B : Nat → Int} (h : Sees w a n I B) (hN : w.heap.size ≤ N) (hb : Below N w w') : Sees w' a n I B := by
  rcases h with h | ⟨b, off, e, hc⟩
  · exact .inl h
  · refine .inr ⟨b, off, e, fun i hi => ?_⟩
    obtain ⟨⟨h1, h2⟩, h3⟩ := hc i hi
    have hb' := World.block_lt_of_cell? _ _ h1
    simp only at hb'
    exact ⟨⟨(hb.cell (p := ⟨b, off + i * 2, none⟩) (by simp; omega)).trans h1, (hb.cell (p := ⟨b, off + i * 2 + 1, none⟩) (by simp; omega)).trans h2⟩, h3⟩

theorem Sees.less {w : World} {a : Option Addr} {n m : Nat} {I B : Nat → Int} (h : Sees w a n I B) (hm : m ≤ n) : Sees w a m I B := by
  rcases h with h | ⟨b, off, e, hc⟩
  · exact .inl (by omega)
  · exact .inr ⟨b, off, e, fun i hi => hc i (by omega)⟩

/-- A world in which the old blocks below N stand is one in which the bits stand. -/
theorem Sees.mono {w w' : World} {a : Option Addr} {n : Nat} {I B : Nat → Int} (h : Sees w a n I B) (hb : Below w.heap.size w w') : Sees w' a n I B := h.below (Nat.le_refl _) hb

/-- A context's state after the first k bits. -/
def Fo (c q : Int) (I B : Nat → Int) (i : Nat) : Nat → Int × Int
  | 0 => (pI i c q, bI i c q)
  | k + 1 => if I k % 286 = i then (nxtP (Fo c q I B i k).1 (Fo c q I B i k).2 (B k % 2), nxtM (Fo c q I B i k).1 (Fo c q I B i k).2 (B k % 2)) else Fo c q I B i k

theorem fo_good (c q : Int) (I B : Nat → Int) (i : Nat) (hi : i < 286) : ∀ k, 0 ≤ (Fo c q I B i k).1 ∧ (Fo c q I B i k).1 ≤ 62 ∧ 0 ≤ (Fo c q I B i k).2 ∧ (Fo c q I B i k).2 ≤ 1
  | 0 => S0_good c q i hi
  | k + 1 => by
    obtain ⟨h0, h1, h2, h3⟩ := fo_good c q I B i hi k
    unfold Fo
    by_cases h : I k % 286 = i
    · rw [if_pos h]
      exact nxt_good h0 h1 h2 h3 (by omega) (by omega)
    · rw [if_neg h]
      exact ⟨h0, h1, h2, h3⟩

/-- All states after the first k bits. -/
def F (c q : Int) (I B : Nat → Int) (k : Nat) : Nat → Int × Int := fun i => Fo c q I B i k
theorem F_good (c q : Int) (I B : Nat → Int) (k : Nat) : Good (F c q I B k) := fun i hi => fo_good c q I B i hi k
theorem F_zero (c q : Int) (I B : Nat → Int) : F c q I B 0 = S0 c q := rfl
theorem F_succ (c q : Int) (I B : Nat → Int) (k : Nat) : seeS (F c q I B k) (I k % 286) (B k % 2) = F c q I B (k + 1) := by
  unfold seeS
  rw [if_pos ⟨by omega, by omega, by omega⟩]
  funext i
  unfold upd F
  by_cases h : i = (I k % 286).toNat
  · rw [if_pos h]
    subst h
    conv => rhs; unfold Fo
    rw [if_pos (by omega)]
  · rw [if_neg h]
    conv => rhs; unfold Fo
    rw [if_neg (by omega)]
theorem seeE_zero (I B : Nat → Int) (k : Nat) : seeE (I k % 286) (B k % 2) = 0 := by
  unfold seeE
  rw [if_pos ⟨by omega, by omega, by omega⟩]

open Go.ChangeShapes Go.WideShapes Go.Deep in
theorem open_sees {H : Type} {enc : TypeId × Value → H} {W : World} {base : Nat} {spare : Nat → Bool} {held : Bool} {fuel len cap : Nat} {a : Option Addr} {x : DataW H × List MemPlace} (h : DataW.trod enc Try.prog W base spare held fuel 29 [.slice a len cap] = some x) :
    ∃ I B, len ≤ cap ∧ cap ≤ maxLen ∧ Sees W a len I B ∧ (a = none → cap = 0) ∧ (∀ y, a = some y → y.spot = none ∨ len = 0) := by
  rcases open_slice_pairs Try.underlying29 Try.underlying36 (by kernel_rfl) rfl rfl (by kernel_rfl) (by kernel_rfl) h with ⟨hcs, _⟩ | ⟨y, l, c, m, n, V0, V1, D0, D1, P0, P1, hcs, _, hl, hm, hmm, hx, hall⟩
  · simp at hcs
    obtain ⟨rfl, rfl, rfl⟩ := hcs
    exact ⟨fun _ => 0, fun _ => 0, Nat.le_refl _, Nat.zero_le _, .inl rfl, fun _ => rfl, fun _ h => by simp at h⟩
  · simp at hcs
    obtain ⟨rfl, rfl, rfl⟩ := hcs
    have hlm : len ≤ m := by rw [hmm]; split <;> omega
    have key : ∀ i, i < len → ∃ p q, (W.cell? (y.add (i * 2)) = some (.int .i64 p) ∧ W.cell? (y.add (i * 2 + 1)) = some (.int .u8 q)) ∧ (-9223372036854775808 ≤ p ∧ p ≤ 9223372036854775807 ∧ 0 ≤ q ∧ q ≤ 255) := by
      intro i hi
      obtain ⟨c0, c1, t0, t1⟩ := hall i (by omega)
      obtain ⟨p, ep, _, wp⟩ := DataW.trod_int Try.underlying3 t0
      obtain ⟨q, eq, _, wq⟩ := DataW.trod_int Try.underlying5 t1
      simp at ep eq
      rw [ep] at c0
      rw [eq] at c1
      have b0 := bounds_i64 wp
      have b1 := bounds_u8 wq
      exact ⟨p, q, ⟨c0, c1⟩, b0.1, b0.2, b1.1, b1.2⟩
    refine ⟨fun i => intOf ((W.cell? (y.add (i * 2))).getD (.int .i64 0)), fun i => intOf ((W.cell? (y.add (i * 2 + 1))).getD (.int .u8 0)), hl, hm, ?_, fun h => by simp at h, fun z hz => ?_⟩
    · by_cases h0 : len = 0
      · exact .inl h0
      · obtain ⟨b, off, spot⟩ := y
        obtain ⟨p, q, ⟨c0, _⟩, _⟩ := key 0 (by omega)
        have hspot : spot = none := by simpa [Addr.add] using World.cell?_spot c0
        subst hspot
        refine .inr ⟨b, off, rfl, fun i hi => ?_⟩
        obtain ⟨p, q, ⟨c0, c1⟩, hb⟩ := key i hi
        have e0 : (⟨b, off, none⟩ : Addr).add (i * 2) = ⟨b, off + i * 2, none⟩ := by unfold Addr.add; split <;> simp_all
        have e1 : (⟨b, off, none⟩ : Addr).add (i * 2 + 1) = ⟨b, off + i * 2 + 1, none⟩ := by unfold Addr.add; split <;> simp_all [Nat.add_assoc]
        rw [e0] at c0
        rw [e1] at c1
        simp only [e0, e1, c0, c1, Option.getD_some, intOf]
        exact ⟨⟨trivial, trivial⟩, hb⟩
    · by_cases h0 : len = 0
      · exact .inr h0
      · obtain ⟨b, off, spot⟩ := y
        obtain ⟨p, q, ⟨c0, _⟩, _⟩ := key 0 (by omega)
        have hspot : spot = none := by simpa [Addr.add] using World.cell?_spot c0
        injection hz with hz
        subst hz
        exact .inl hspot

end Go.Proofs.Ytomeiofieheggaa
