/- State and See at any index; rest; alive. -/
import Derived.Test.YtomeiofieheggaaCopy
namespace Go.Proofs.Ytomeiofieheggaa
open Go.RowKit
set_option linter.unusedSimpArgs false
set_option linter.unusedVariables false

/-- All states are valid. -/
def Good (S : Nat → Int × Int) : Prop := ∀ i, i < 286 → 0 ≤ (S i).1 ∧ (S i).1 ≤ 62 ∧ 0 ≤ (S i).2 ∧ (S i).2 ≤ 1

def stP (S : Nat → Int × Int) (i : Int) : Int := if 0 ≤ i ∧ i < 286 then (S i.toNat).1 else 0
def stM (S : Nat → Int × Int) (i : Int) : Int := if 0 ≤ i ∧ i < 286 then (S i.toNat).2 else 0
def stE (i : Int) : Int := if 0 ≤ i ∧ i < 286 then 0 else 3

theorem state_any (g : Nat) (S : Nat → Int × Int) (i : Int) (w : World) (hT : Tab w g S) :
    Calls Try.prog 16 #[.pointer (some ⟨g, 0, none⟩), .int .i64 i] w fun e w' => e = .returned (.tuple #[.agg #[.int .u8 (stP S i), .int .u8 (stM S i)], .int .i64 (stE i)]) ∧ Below w.heap.size w w' := by
  unfold stP stM stE
  by_cases h : 0 ≤ i ∧ i < 286
  · simp only [if_pos h]
    obtain ⟨k, rfl⟩ : ∃ k : Nat, i = k := ⟨i.toNat, by omega⟩
    exact state_yes g S k (by omega) w hT
  · simp only [if_neg h]
    exact state_no g i (by omega) w

/-- The table after a bit at any index, and the error. -/
def seeE (i b : Int) : Int := if 0 ≤ i ∧ i < 286 ∧ b ≤ 1 then 0 else 3
def seeS (S : Nat → Int × Int) (i b : Int) : Nat → Int × Int := if 0 ≤ i ∧ i < 286 ∧ b ≤ 1 then upd S i.toNat (nxtP (S i.toNat).1 (S i.toNat).2 b, nxtM (S i.toNat).1 (S i.toNat).2 b) else S

theorem Far.tab_same {g : Nat} {w w' : World} {S : Nat → Int × Int} (h : Below w.heap.size w w') (hb : Tab w g S) : Tab w' g S := hb.below h hb.lt

theorem see_any (g : Nat) (S : Nat → Int × Int) (i b : Int) (hS : Good S) (b0 : 0 ≤ b) (w : World) (hT : Tab w g S) :
    Calls Try.prog 15 #[.pointer (some ⟨g, 0, none⟩), .int .i64 i, .int .u8 b] w fun e w' => e = .returned (.int .i64 (seeE i b)) ∧ Tab w' g (seeS S i b) ∧ Far g w w' := by
  unfold seeE seeS
  by_cases h : 0 ≤ i ∧ i < 286
  · obtain ⟨k, rfl⟩ : ∃ k : Nat, i = k := ⟨i.toNat, by omega⟩
    have hk : k < 286 := by omega
    obtain ⟨p0, p1, m0, m1⟩ := hS k hk
    by_cases hb : b ≤ 1
    · rw [if_pos ⟨h.1, h.2, hb⟩, if_pos ⟨h.1, h.2, hb⟩]
      exact see_ok g S k b hk p0 m0 b0 (by unfold nxtE; rw [if_pos ⟨p1, m1, hb⟩]) w hT
    · rw [if_neg (by omega), if_neg (by omega)]
      refine (see_bad g S k b hk p0 m0 b0 (by unfold nxtE; rw [if_neg (by omega)]) w hT).mono ?_
      rintro e w' ⟨rfl, hB⟩
      exact ⟨rfl, Far.tab_same hB hT, Far.of_below hB⟩
  · rw [if_neg (by omega), if_neg (by omega)]
    refine (see_no g i b (by omega) w).mono ?_
    rintro e w' ⟨rfl, hB⟩
    exact ⟨rfl, Far.tab_same hB hT, Far.of_below hB⟩

theorem nxt_good {p m b : Int} (p0 : 0 ≤ p) (p1 : p ≤ 62) (m0 : 0 ≤ m) (m1 : m ≤ 1) (b0 : 0 ≤ b) (b1 : b ≤ 1) : 0 ≤ nxtP p m b ∧ nxtP p m b ≤ 62 ∧ 0 ≤ nxtM p m b ∧ nxtM p m b ≤ 1 := by
  unfold nxtP nxtM
  simp only [if_pos (show p ≤ 62 ∧ m ≤ 1 ∧ b ≤ 1 from ⟨p1, m1, b1⟩)]
  by_cases e : b = m
  · simp only [if_pos e]
    split <;> omega
  · simp only [if_neg e]
    by_cases hp : p = 0
    · simp only [if_pos hp]; omega
    · simp only [if_neg hp]
      obtain ⟨q0, q1, _, _⟩ := quo_bd p0 p1 hp
      generalize p * p / 160 = q at *
      omega

theorem seeS_good {S : Nat → Int × Int} (h : Good S) {i b : Int} (b0 : 0 ≤ b) : Good (seeS S i b) := by
  unfold seeS
  by_cases hc : 0 ≤ i ∧ i < 286 ∧ b ≤ 1
  · rw [if_pos hc]
    intro k hk
    unfold upd
    by_cases e : k = i.toNat
    · rw [if_pos e]
      obtain ⟨p0, p1, m0, m1⟩ := h i.toNat (by omega)
      exact nxt_good p0 p1 m0 m1 b0 hc.2.2
    · rw [if_neg e]; exact h k hk
  · rw [if_neg hc]; exact h

theorem S0_good (c q : Int) : Good (S0 c q) := by
  intro i hi
  unfold S0 pI bI
  dsimp only
  generalize sI i c q = s
  by_cases h : inI i c q
  · rw [if_pos h, if_pos h]
    refine ⟨?_, ?_, ?_, ?_⟩ <;> (repeat' split) <;> omega
  · rw [if_neg h, if_neg h]; omega

set_option maxHeartbeats 1000000 in
theorem rest_any (n m : Int) (n0 : -9223372036854775808 ≤ n) (n1 : n ≤ 9223372036854775807) (m0 : 0 < m) (m1 : m ≤ 1000) (w : World) :
    Calls Try.prog 13 #[.int .i64 n, .int .i64 m] w fun e w' => e = .returned (.int .i64 (n % m)) ∧ w = w' := by
  have t0 : -m < n.tmod m := Int.lt_tmod_of_pos n m0
  have t1 : n.tmod m < m := Int.tmod_lt_of_pos n m0
  have e : (n.tmod m + m).tmod m = n % m := by
    rw [Int.tmod_eq_emod_of_nonneg (by omega), Int.add_emod_right, Int.tmod_eq_emod]
    split
    · simp
    · rw [show ((m.natAbs : Nat) : Int) = m from by omega, Int.sub_emod_right]; simp
  have ne : (m == 0) = false := by simp; omega
  have E := Lib.hid e
  clear e
  go_enter Try.func13, Try.ntmps13
  go_wp2
  go_ret
  have hb : (n.tmod m + m) % m = n % m := by have := E.out; rwa [Int.tmod_eq_emod_of_nonneg (by omega)] at this
  exact ⟨congrArg (fun x => Ending.returned (.int .i64 x)) hb, rfl⟩

theorem init_alive : pI 0 0 51 = 62 ∧ bI 0 0 51 = 0 ∧ eI 0 0 51 = 0 := by decide
theorem seen_alive : seeS (S0 0 26) 3 0 3 = (9, 1) := by decide

set_option maxRecDepth 100000 in
set_option maxHeartbeats 2000000 in
theorem alive_yes (w : World) : Calls Try.prog 12 #[] w fun e w' => e = .returned (.bool true) ∧ Below w.heap.size w w' := by
  have HI := Lib.hid (fun w => init_any 0 0 51 w)
  rw [init_alive.1, init_alive.2.1, init_alive.2.2] at HI
  have HN := Lib.hid (fun w => new_yes 0 26 (by omega) (by omega) (by omega) (by omega) w)
  have HS := Lib.hid (fun g w hT => see_any g (S0 0 26) 3 0 (S0_good 0 26) (by omega) w hT)
  rw [show seeE 3 0 = 0 from rfl] at HS
  have HT := Lib.hid (fun g w hT => state_any g (seeS (S0 0 26) 3 0) 3 w hT)
  have e1 : stP (seeS (S0 0 26) 3 0) 3 = 9 := by unfold stP; rw [if_pos (by omega)]; exact congrArg Prod.fst seen_alive
  have e2 : stM (seeS (S0 0 26) 3 0) 3 = 1 := by unfold stM; rw [if_pos (by omega)]; exact congrArg Prod.snd seen_alive
  rw [e1, e2, show stE 3 = 0 from rfl] at HT
  clear e1 e2
  generalize seeS (S0 0 26) 3 0 = S1 at *
  generalize S0 0 26 = S at *
  go_enter Try.func12, Try.ntmps12
  go_wp2_with (fail)
  refine (HI.out _).mono ?_
  rintro e w1 ⟨rfl, b1⟩
  have B1 := Lib.hid b1
  have s1 := b1.size
  clear b1
  go_wp2_with (fail)
  refine (HN.out _).mono ?_
  rintro e w2 ⟨rfl, T, b2⟩
  have X2 := (Box.new w1 23 #[.int .u8 62, .int .u8 0]).below b2 (by simp)
  have B2 := Lib.hid (B1.out.trans ((((Below.refl _ w1).alloc (Nat.le_refl _) _).trans (b2.mono (by simp))).mono B1.out.size))
  have s2 := T.lt
  simp only [World.size_alloc] at T s2 ⊢
  have x0 : w2.cell? ⟨w1.heap.size, 0, none⟩ = some (.int .u8 62) := by simpa using X2.cell 0
  have x1 : w2.cell? ⟨w1.heap.size, 1, none⟩ = some (.int .u8 0) := by simpa using X2.cell 1
  have T2 := Lib.hid T
  have X2' := Lib.hid X2
  clear b2 T X2
  go_wp2_with (fail)
  refine (HS.out _ _ T2.out).mono ?_
  rintro e w3 ⟨rfl, T, b3⟩
  have X3 := b3.box X2'.out (by omega)
  have s3 := X3.lt
  have y0 : w3.cell? ⟨w1.heap.size, 0, none⟩ = some (.int .u8 62) := by simpa using X3.cell 0
  have y1 : w3.cell? ⟨w1.heap.size, 1, none⟩ = some (.int .u8 0) := by simpa using X3.cell 1
  have T3 := Lib.hid T
  have X3' := Lib.hid X3
  have B3 := Lib.hid (B2.out.trans (b3.below (by omega) B2.out.size))
  clear b3 T X3
  go_wp2_with (fail)
  refine (HT.out _ _ T3.out).mono ?_
  rintro e w4 ⟨rfl, b4⟩
  have X4 := X3'.out.below b4 s3
  have z0 : w4.cell? ⟨w1.heap.size, 0, none⟩ = some (.int .u8 62) := by simpa using X4.cell 0
  have z1 : w4.cell? ⟨w1.heap.size, 1, none⟩ = some (.int .u8 0) := by simpa using X4.cell 1
  have z2 := X4.frozen 0
  have z3 := X4.frozen 1
  have s4 := X4.lt
  have B4 := Lib.hid (B3.out.trans (b4.mono B3.out.size))
  clear b4 X4
  go_wp2_with (fail)
  go_ret
  exact ⟨rfl, (B4.out.setCell (by simp; omega) _).setCell (by simp; omega) _⟩

end Go.Proofs.Ytomeiofieheggaa
