/- CtxSlopes: as the quantizer grows the first state of a context goes one way, and with the quantizer 0 contexts of the same rest have the same state; no conditions. -/
import Derived.Test.YtomeiofieheggaaRows
import Derived.WalkKit
import Derived.ProofKit
import Derived.OpenShut
import Derived.Below
import Derived.Test.YtomeiofieheggaaActs
import Derived.ShutString
namespace Go.Proofs.Ytomeiofieheggaa.ctxSlopes
open Go.ChangeShapes Go.WideShapes Go.ChangeAt Go.RowKit
open Go.ChangeMaps (open_string shut_string)
set_option linter.unusedVariables false

theorem own : ownKnob Try.prog.godebug = none := by kernel_rfl

/-! ### The walk -/
theorem two_box {w w1 : World} {cs : Array Value} (t : TypeId) (b : Below (w.alloc (.cells cs t)).heap.size (w.alloc (.cells cs t)) w1) : Box w1 w.heap.size t cs := (Box.new w t cs).below b (by simp)

/-- The place of a first state. -/
def cI (i c q : Int) : Int := if sI i c q ≤ 1 then 1 else if sI i c q ≤ 126 then sI i c q else 126
theorem cI_of {i c q : Int} (h : inI i c q) : (if bI i c q = 1 then 64 + pI i c q else 63 - pI i c q) = cI i c q := by
  unfold cI bI pI
  rw [if_pos h, if_pos h]
  generalize sI i c q = s
  split <;> (repeat' split) <;> omega
theorem cI_up (i c q : Int) (h : 0 ≤ (7 * i + 13 * c) % 41 - 20) : cI i c q ≤ cI i c (q + 1) := by
  have : sI i c q ≤ sI i c (q + 1) := by
    unfold sI
    rw [Int.mul_add, Int.mul_one]
    omega
  unfold cI
  repeat' split
  all_goals omega
theorem cI_down (i c q : Int) (h : (7 * i + 13 * c) % 41 - 20 ≤ 0) : cI i c (q + 1) ≤ cI i c q := by
  have : sI i c (q + 1) ≤ sI i c q := by
    unfold sI
    rw [Int.mul_add, Int.mul_one]
    omega
  unfold cI
  repeat' split
  all_goals omega
theorem same_at (i c : Int) (i0 : 0 ≤ i) (i1 : i + 48 ≤ 285) (c0 : 0 ≤ c) (c1 : c ≤ 3) : pI (i + 48) c 0 = pI i c 0 ∧ bI (i + 48) c 0 = bI i c 0 := by
  have e : sI (i + 48) c 0 = sI i c 0 := by unfold sI; simp; omega
  have h1 : inI (i + 48) c 0 := by unfold inI; omega
  have h2 : inI i c 0 := by unfold inI; omega
  unfold pI bI
  rw [if_pos h1, if_pos h2, if_pos h1, if_pos h2, e]
  exact ⟨rfl, rfl⟩

set_option maxHeartbeats 1000000 in
theorem place_any (p m x : Int) (p0 : 0 ≤ p) (p1 : p ≤ 62) (hx : (if m = 1 then 64 + p else 63 - p) = x) (w : World) :
    Calls Try.prog 19 #[.agg #[.int .u8 p, .int .u8 m]] w fun e w' => e = .returned (.int .i64 x) ∧ Below w.heap.size w w' := by
  subst hx
  by_cases h : m = 1
  · rw [if_pos h]
    have e : (m == 1) = true := by simp [h]
    clear h
    go_enter Try.func19, Try.ntmps19
    go_wp2
    go_ret
    exact ⟨rfl, (Below.refl _ _).alloc (Nat.le_refl _) _⟩
  · rw [if_neg h]
    have e : (m == 1) = false := by simp [h]
    clear h
    go_enter Try.func19, Try.ntmps19
    go_wp2
    go_ret
    exact ⟨rfl, (Below.refl _ _).alloc (Nat.le_refl _) _⟩

/-- The loop's two answers and its last place. -/
structure Way (r i c : Int) (k : Nat) (u d : Bool) (l : Int) : Prop where
  up : 0 ≤ r → u = true
  down : r ≤ 0 → d = true
  first : k = 0 → u = true ∧ d = true
  last : 0 < k → l = cI i c ((k : Int) - 1)

set_option maxRecDepth 100000 in
set_option maxHeartbeats 8000000 in
theorem walk (a0 : Int) (a1 : Int) (w0 : (Lit.int .i64 a0).wf = true) (w1 : (Lit.int .i64 a1).wf = true) (w : World) :
    Calls Try.prog 6 #[.int .i64 a0, .int .i64 a1] w fun e w' => e = .returned (.bool true) ∧ Below w.heap.size w w' := by
  have hr0 := bounds_i64 w0
  have hr1 := bounds_i64 w1
  have R0 := Lib.hid (fun w => rest_any a0 286 hr0.1 hr0.2 (by decide) (by decide) w)
  have R1 := Lib.hid (fun w => rest_any a1 4 hr1.1 hr1.2 (by decide) (by decide) w)
  have i0 : 0 ≤ a0 % 286 := by omega
  have i1 : a0 % 286 < 286 := by omega
  have c0 : 0 ≤ a1 % 4 := by omega
  have c1 : a1 % 4 < 4 := by omega
  clear hr0 hr1 w0 w1
  generalize a0 % 286 = i at *
  generalize a1 % 4 = c at *
  obtain ⟨r, hr⟩ : ∃ r, (7 * i + 13 * c) % 41 - 20 = r := ⟨_, rfl⟩
  have HR := Lib.hid hr
  have UP := Lib.hid (fun q => cI_up i c q)
  have DN := Lib.hid (fun q => cI_down i c q)
  rw [hr] at UP DN
  clear hr
  go_enter Try.func6, Try.ntmps6
  go_wp2_with (first
    | (go_at_call 13; (with_reducible refine (R0.out _).mono ?_); rintro e w1 ⟨rfl, rfl⟩)
    | (go_at_call 13; (with_reducible refine (R1.out _).mono ?_); rintro e w1 ⟨rfl, rfl⟩))
  go_loopw [6, 7, 8, 9] (fun u d l v wr => ∃ (k : Nat) (ub db : Bool) (li : Int), k ≤ 52 ∧ v = .int .i64 k ∧ u = .bool ub ∧ d = .bool db ∧ l = .int .i64 li ∧ Way r i c k ub db li ∧ Below w.heap.size w wr) (fun _ _ _ v _ => 52 - (intOf v).toNat)
  case atStart => exact ⟨0, true, true, 0, by omega, rfl, rfl, rfl, rfl, ⟨fun _ => rfl, fun _ => rfl, fun _ => ⟨rfl, rfl⟩, fun h => absurd h (by omega)⟩, Below.refl _ _⟩
  case round =>
    obtain ⟨k, ub, db, li, hk, rfl, rfl, rfl, rfl, hw, hB⟩ := hrel
    have B2 := Lib.hid hB
    have HW := Lib.hid hw
    clear hB hw
    by_cases hlt : k < 52
    · have hin : inI i c k := by unfold inI; omega
      have HI := Lib.hid (fun w => init_any i c k w)
      have he : eI i c k = 0 := by unfold eI; rw [if_pos hin]
      rw [he] at HI
      obtain ⟨p0, p1, m0, m1⟩ := S0_good c k i.toNat (by omega)
      unfold S0 at p0 p1 m0 m1
      dsimp only at p0 p1 m0 m1
      rw [show ((i.toNat : Nat) : Int) = i from by omega] at p0 p1 m0 m1
      have HC := Lib.hid (fun w => check_yes (pI i c k) (bI i c k) p1 m1 w 18 (.inl rfl))
      have HP := Lib.hid (fun w => place_any (pI i c k) (bI i c k) (cI i c k) p0 p1 (cI_of hin) w)
      have L1 := Lib.hid (show 0 < k → li = cI i c ((k : Int) - 1) from HW.out.last)
      have UK := Lib.hid (show 0 ≤ r → 0 < k → li ≤ cI i c k from fun h hk => by rw [L1.out hk]; have := UP.out ((k : Int) - 1) h; rwa [Int.sub_add_cancel] at this)
      have DK := Lib.hid (show r ≤ 0 → 0 < k → cI i c k ≤ li from fun h hk => by rw [L1.out hk]; have := DN.out ((k : Int) - 1) h; rwa [Int.sub_add_cancel] at this)
      have LX := Lib.hid (show ∀ ub' db', (0 ≤ r → ub' = true) → (r ≤ 0 → db' = true) → Way r i c (k + 1) ub' db' (cI i c k) from fun ub' db' h1 h2 => ⟨h1, h2, fun h => absurd h (by omega), fun _ => by rw [show (((k + 1 : Nat) : Int) - 1) = k from by omega]⟩)
      clear he hin L1
      generalize pI i c k = p at *
      generalize bI i c k = m at *
      generalize cI i c k = x at *
      have hk52 : (k : Int) < 52 := by omega
      by_cases hz : k = 0
      · obtain ⟨h1, h2⟩ := HW.out.first hz
        subst h1 h2
        subst hz
        go_wp2_with (first
        | (go_at_call 10; refine (HI.out _).mono ?_; rintro e w3 ⟨rfl, b3⟩; have B3 := Lib.hid (B2.out.trans (b3.mono B2.out.size)); clear b3)
        | (go_at_call 18; refine (HC.out _).mono ?_; rintro e w4 ⟨rfl, b4⟩; have XX := two_box 23 b4; have BZ := Lib.hid ((B3.out.alloc B3.out.size _).trans (b4.mono (by have := B3.out.size; simp; omega))); have x0 : w4.cell? ⟨w3.heap.size, 0, none⟩ = some (.int .u8 p) := (by simpa using XX.cell 0); have x1 : w4.cell? ⟨w3.heap.size, 1, none⟩ = some (.int .u8 m) := (by simpa using XX.cell 1); have sx := XX.lt; have XZ := Lib.hid XX; clear b4 XX)
        | (go_at_call 19; refine (HP.out _).mono ?_; rintro e w4 ⟨rfl, b4⟩; have XX := XZ.out.below b4 sx; have BZ := Lib.hid (BZ.out.trans (b4.mono BZ.out.size)); have x0 : w4.cell? ⟨w3.heap.size, 0, none⟩ = some (.int .u8 p) := (by simpa using XX.cell 0); have x1 : w4.cell? ⟨w3.heap.size, 1, none⟩ = some (.int .u8 m) := (by simpa using XX.cell 1); have sx := XX.lt; have XZ := Lib.hid XX; clear b4 XX))
        go_roundw
        case rel => exact ⟨1, true, true, x, by omega, rfl, rfl, rfl, rfl, LX.out true true (fun _ => rfl) (fun _ => rfl), BZ.out⟩
        case measure => simp [intOf]
      · have hkp : 0 < k := by omega
        have e0 : ((k : Int) == 0) = false := by simp; omega
        clear hz
        by_cases hr : 0 ≤ r
        · have h1 := HW.out.up hr
          subst h1
          have hyx := UK.out hr hkp
          have hd : decide (li ≤ x) = true := by simpa using hyx
          cases db with
          | false =>
            have hrn : ¬ r ≤ 0 := fun h => by have := HW.out.down h; simp at this
            go_wp2_with (first
        | (go_at_call 10; refine (HI.out _).mono ?_; rintro e w3 ⟨rfl, b3⟩; have B3 := Lib.hid (B2.out.trans (b3.mono B2.out.size)); clear b3)
        | (go_at_call 18; refine (HC.out _).mono ?_; rintro e w4 ⟨rfl, b4⟩; have XX := two_box 23 b4; have BZ := Lib.hid ((B3.out.alloc B3.out.size _).trans (b4.mono (by have := B3.out.size; simp; omega))); have x0 : w4.cell? ⟨w3.heap.size, 0, none⟩ = some (.int .u8 p) := (by simpa using XX.cell 0); have x1 : w4.cell? ⟨w3.heap.size, 1, none⟩ = some (.int .u8 m) := (by simpa using XX.cell 1); have sx := XX.lt; have XZ := Lib.hid XX; clear b4 XX)
        | (go_at_call 19; refine (HP.out _).mono ?_; rintro e w4 ⟨rfl, b4⟩; have XX := XZ.out.below b4 sx; have BZ := Lib.hid (BZ.out.trans (b4.mono BZ.out.size)); have x0 : w4.cell? ⟨w3.heap.size, 0, none⟩ = some (.int .u8 p) := (by simpa using XX.cell 0); have x1 : w4.cell? ⟨w3.heap.size, 1, none⟩ = some (.int .u8 m) := (by simpa using XX.cell 1); have sx := XX.lt; have XZ := Lib.hid XX; clear b4 XX))
            go_roundw
            case rel => exact ⟨k + 1, true, false, x, by omega, by go_num, rfl, rfl, rfl, LX.out true false (fun _ => rfl) (fun h => absurd h (by omega)), BZ.out⟩
            case measure => simp [intOf]; omega
          | true =>
            by_cases hxy : x ≤ li
            · go_wp2_with (first
        | (go_at_call 10; refine (HI.out _).mono ?_; rintro e w3 ⟨rfl, b3⟩; have B3 := Lib.hid (B2.out.trans (b3.mono B2.out.size)); clear b3)
        | (go_at_call 18; refine (HC.out _).mono ?_; rintro e w4 ⟨rfl, b4⟩; have XX := two_box 23 b4; have BZ := Lib.hid ((B3.out.alloc B3.out.size _).trans (b4.mono (by have := B3.out.size; simp; omega))); have x0 : w4.cell? ⟨w3.heap.size, 0, none⟩ = some (.int .u8 p) := (by simpa using XX.cell 0); have x1 : w4.cell? ⟨w3.heap.size, 1, none⟩ = some (.int .u8 m) := (by simpa using XX.cell 1); have sx := XX.lt; have XZ := Lib.hid XX; clear b4 XX)
        | (go_at_call 19; refine (HP.out _).mono ?_; rintro e w4 ⟨rfl, b4⟩; have XX := XZ.out.below b4 sx; have BZ := Lib.hid (BZ.out.trans (b4.mono BZ.out.size)); have x0 : w4.cell? ⟨w3.heap.size, 0, none⟩ = some (.int .u8 p) := (by simpa using XX.cell 0); have x1 : w4.cell? ⟨w3.heap.size, 1, none⟩ = some (.int .u8 m) := (by simpa using XX.cell 1); have sx := XX.lt; have XZ := Lib.hid XX; clear b4 XX))
              go_roundw
              case rel => exact ⟨k + 1, true, true, x, by omega, by go_num, rfl, rfl, rfl, LX.out true true (fun _ => rfl) (fun _ => rfl), BZ.out⟩
              case measure => simp [intOf]; omega
            · have hrn : ¬ r ≤ 0 := fun h => hxy (DK.out h hkp)
              have hd2 : decide (x ≤ li) = false := by simpa using hxy
              go_wp2_with (first
        | (go_at_call 10; refine (HI.out _).mono ?_; rintro e w3 ⟨rfl, b3⟩; have B3 := Lib.hid (B2.out.trans (b3.mono B2.out.size)); clear b3)
        | (go_at_call 18; refine (HC.out _).mono ?_; rintro e w4 ⟨rfl, b4⟩; have XX := two_box 23 b4; have BZ := Lib.hid ((B3.out.alloc B3.out.size _).trans (b4.mono (by have := B3.out.size; simp; omega))); have x0 : w4.cell? ⟨w3.heap.size, 0, none⟩ = some (.int .u8 p) := (by simpa using XX.cell 0); have x1 : w4.cell? ⟨w3.heap.size, 1, none⟩ = some (.int .u8 m) := (by simpa using XX.cell 1); have sx := XX.lt; have XZ := Lib.hid XX; clear b4 XX)
        | (go_at_call 19; refine (HP.out _).mono ?_; rintro e w4 ⟨rfl, b4⟩; have XX := XZ.out.below b4 sx; have BZ := Lib.hid (BZ.out.trans (b4.mono BZ.out.size)); have x0 : w4.cell? ⟨w3.heap.size, 0, none⟩ = some (.int .u8 p) := (by simpa using XX.cell 0); have x1 : w4.cell? ⟨w3.heap.size, 1, none⟩ = some (.int .u8 m) := (by simpa using XX.cell 1); have sx := XX.lt; have XZ := Lib.hid XX; clear b4 XX))
              go_roundw
              case rel => exact ⟨k + 1, true, false, x, by omega, by go_num, rfl, rfl, rfl, LX.out true false (fun _ => rfl) (fun h => absurd h (by omega)), BZ.out⟩
              case measure => simp [intOf]; omega
        · have h1 := HW.out.down (by omega)
          subst h1
          have hyx := DK.out (by omega) hkp
          cases ub with
          | false =>
            go_wp2_with (first
        | (go_at_call 10; refine (HI.out _).mono ?_; rintro e w3 ⟨rfl, b3⟩; have B3 := Lib.hid (B2.out.trans (b3.mono B2.out.size)); clear b3)
        | (go_at_call 18; refine (HC.out _).mono ?_; rintro e w4 ⟨rfl, b4⟩; have XX := two_box 23 b4; have BZ := Lib.hid ((B3.out.alloc B3.out.size _).trans (b4.mono (by have := B3.out.size; simp; omega))); have x0 : w4.cell? ⟨w3.heap.size, 0, none⟩ = some (.int .u8 p) := (by simpa using XX.cell 0); have x1 : w4.cell? ⟨w3.heap.size, 1, none⟩ = some (.int .u8 m) := (by simpa using XX.cell 1); have sx := XX.lt; have XZ := Lib.hid XX; clear b4 XX)
        | (go_at_call 19; refine (HP.out _).mono ?_; rintro e w4 ⟨rfl, b4⟩; have XX := XZ.out.below b4 sx; have BZ := Lib.hid (BZ.out.trans (b4.mono BZ.out.size)); have x0 : w4.cell? ⟨w3.heap.size, 0, none⟩ = some (.int .u8 p) := (by simpa using XX.cell 0); have x1 : w4.cell? ⟨w3.heap.size, 1, none⟩ = some (.int .u8 m) := (by simpa using XX.cell 1); have sx := XX.lt; have XZ := Lib.hid XX; clear b4 XX))
            go_roundw
            case rel => exact ⟨k + 1, false, true, x, by omega, by go_num, rfl, rfl, rfl, LX.out false true (fun h => absurd h (by omega)) (fun _ => rfl), BZ.out⟩
            case measure => simp [intOf]; omega
          | true =>
            by_cases hxy : li ≤ x
            · go_wp2_with (first
        | (go_at_call 10; refine (HI.out _).mono ?_; rintro e w3 ⟨rfl, b3⟩; have B3 := Lib.hid (B2.out.trans (b3.mono B2.out.size)); clear b3)
        | (go_at_call 18; refine (HC.out _).mono ?_; rintro e w4 ⟨rfl, b4⟩; have XX := two_box 23 b4; have BZ := Lib.hid ((B3.out.alloc B3.out.size _).trans (b4.mono (by have := B3.out.size; simp; omega))); have x0 : w4.cell? ⟨w3.heap.size, 0, none⟩ = some (.int .u8 p) := (by simpa using XX.cell 0); have x1 : w4.cell? ⟨w3.heap.size, 1, none⟩ = some (.int .u8 m) := (by simpa using XX.cell 1); have sx := XX.lt; have XZ := Lib.hid XX; clear b4 XX)
        | (go_at_call 19; refine (HP.out _).mono ?_; rintro e w4 ⟨rfl, b4⟩; have XX := XZ.out.below b4 sx; have BZ := Lib.hid (BZ.out.trans (b4.mono BZ.out.size)); have x0 : w4.cell? ⟨w3.heap.size, 0, none⟩ = some (.int .u8 p) := (by simpa using XX.cell 0); have x1 : w4.cell? ⟨w3.heap.size, 1, none⟩ = some (.int .u8 m) := (by simpa using XX.cell 1); have sx := XX.lt; have XZ := Lib.hid XX; clear b4 XX))
              go_roundw
              case rel => exact ⟨k + 1, true, true, x, by omega, by go_num, rfl, rfl, rfl, LX.out true true (fun _ => rfl) (fun _ => rfl), BZ.out⟩
              case measure => simp [intOf]; omega
            · have hd2 : decide (li ≤ x) = false := by simpa using hxy
              go_wp2_with (first
        | (go_at_call 10; refine (HI.out _).mono ?_; rintro e w3 ⟨rfl, b3⟩; have B3 := Lib.hid (B2.out.trans (b3.mono B2.out.size)); clear b3)
        | (go_at_call 18; refine (HC.out _).mono ?_; rintro e w4 ⟨rfl, b4⟩; have XX := two_box 23 b4; have BZ := Lib.hid ((B3.out.alloc B3.out.size _).trans (b4.mono (by have := B3.out.size; simp; omega))); have x0 : w4.cell? ⟨w3.heap.size, 0, none⟩ = some (.int .u8 p) := (by simpa using XX.cell 0); have x1 : w4.cell? ⟨w3.heap.size, 1, none⟩ = some (.int .u8 m) := (by simpa using XX.cell 1); have sx := XX.lt; have XZ := Lib.hid XX; clear b4 XX)
        | (go_at_call 19; refine (HP.out _).mono ?_; rintro e w4 ⟨rfl, b4⟩; have XX := XZ.out.below b4 sx; have BZ := Lib.hid (BZ.out.trans (b4.mono BZ.out.size)); have x0 : w4.cell? ⟨w3.heap.size, 0, none⟩ = some (.int .u8 p) := (by simpa using XX.cell 0); have x1 : w4.cell? ⟨w3.heap.size, 1, none⟩ = some (.int .u8 m) := (by simpa using XX.cell 1); have sx := XX.lt; have XZ := Lib.hid XX; clear b4 XX))
              go_roundw
              case rel => exact ⟨k + 1, false, true, x, by omega, by go_num, rfl, rfl, rfl, LX.out false true (fun h => absurd h (by omega)) (fun _ => rfl), BZ.out⟩
              case measure => simp [intOf]; omega
    · obtain rfl : k = 52 := by omega
      have hI1 : inI i c 0 := by unfold inI; omega
      have HI := Lib.hid (fun w => init_any i c 0 w)
      rw [show eI i c 0 = 0 from by unfold eI; rw [if_pos hI1]] at HI
      obtain ⟨t, ht⟩ : ∃ t, (i + 48) % 286 = t := ⟨_, rfl⟩
      have hI2 : inI t c 0 := by unfold inI; omega
      have HJ := Lib.hid (fun w => init_any t c 0 w)
      rw [show eI t c 0 = 0 from by unfold eI; rw [if_pos hI2]] at HJ
      have SM := Lib.hid (fun h : i + 48 ≤ 285 => (by have := same_at i c (by omega) (by omega) (by omega) (by omega); rwa [show i + 48 = t from by omega] at this : pI t c 0 = pI i c 0 ∧ bI t c 0 = bI i c 0))
      have HT := Lib.hid ht
      have HRR := HR.out
      clear ht hI1 hI2
      generalize pI i c 0 = p at *
      generalize bI i c 0 = m at *
      generalize pI t c 0 = p' at *
      generalize bI t c 0 = m' at *
      have hcase : (0 < r ∧ ub = true) ∨ (r = 0 ∧ ub = true ∧ db = true) ∨ (r < 0 ∧ db = true) := by
        rcases Int.lt_trichotomy r 0 with h | h | h
        · exact .inr (.inr ⟨h, HW.out.down (by omega)⟩)
        · exact .inr (.inl ⟨h, HW.out.up (by omega), HW.out.down (by omega)⟩)
        · exact .inl ⟨h, HW.out.up (by omega)⟩
      clear UP DN HW
      have hq : ∀ w' : World, Below w.heap.size w w' → w.heap.size ≤ w'.heap.size := fun w' h => h.size
      have HQ := Lib.hid hq
      clear hq
      have hsame : 286 ≤ i + 48 ∨ (i + 48 < 286 ∧ p = p' ∧ m = m') := by
        by_cases h : 286 ≤ i + 48
        · exact .inl h
        · obtain ⟨h1, h2⟩ := SM.out (by omega)
          exact .inr ⟨by omega, h1.symm, h2.symm⟩
      have HTT := HT.out
      clear SM
      rcases hcase with ⟨h1, h2⟩ | ⟨h1, h2, h3⟩ | ⟨h1, h2⟩
      · subst h2
        have g1 : ¬ r ≤ 0 := by omega
        cases db <;> rcases hsame with hs | ⟨hs, rfl, rfl⟩
        all_goals
          go_wp2_with (first
            | (go_at_call 10; with_reducible refine (HI.out _).mono ?_; rintro e w3 ⟨rfl, b3⟩; have s3 := b3.size; have B3 := Lib.hid (B2.out.trans (b3.mono B2.out.size)); clear b3)
            | (go_at_call 10; with_reducible refine (HJ.out _).mono ?_; rintro e w4 ⟨rfl, b4⟩; have XX := two_box 23 b4; have B4 := Lib.hid ((B3.out.alloc B3.out.size _).trans (b4.mono (by have := B3.out.size; simp; omega))); have x0 : w4.cell? ⟨w3.heap.size, 0, none⟩ = some (.int .u8 p) := (by simpa using XX.cell 0); have x1 : w4.cell? ⟨w3.heap.size, 1, none⟩ = some (.int .u8 m) := (by simpa using XX.cell 1); have sx := XX.lt; clear b4 XX)
            | (go_at_call 12; refine (alive_yes _).mono ?_; rintro e w5 ⟨rfl, b5⟩; have B5 := Lib.hid ((B4.out.alloc B4.out.size _).trans (b5.mono (by have := B4.out.size; simp; omega))); clear b5))
          go_ret
          exact ⟨rfl, B5.out⟩
      · subst h2 h3
        rcases hsame with hs | ⟨hs, rfl, rfl⟩
        all_goals
          go_wp2_with (first
            | (go_at_call 10; with_reducible refine (HI.out _).mono ?_; rintro e w3 ⟨rfl, b3⟩; have s3 := b3.size; have B3 := Lib.hid (B2.out.trans (b3.mono B2.out.size)); clear b3)
            | (go_at_call 10; with_reducible refine (HJ.out _).mono ?_; rintro e w4 ⟨rfl, b4⟩; have XX := two_box 23 b4; have B4 := Lib.hid ((B3.out.alloc B3.out.size _).trans (b4.mono (by have := B3.out.size; simp; omega))); have x0 : w4.cell? ⟨w3.heap.size, 0, none⟩ = some (.int .u8 p) := (by simpa using XX.cell 0); have x1 : w4.cell? ⟨w3.heap.size, 1, none⟩ = some (.int .u8 m) := (by simpa using XX.cell 1); have sx := XX.lt; clear b4 XX)
            | (go_at_call 12; refine (alive_yes _).mono ?_; rintro e w5 ⟨rfl, b5⟩; have B5 := Lib.hid ((B4.out.alloc B4.out.size _).trans (b5.mono (by have := B4.out.size; simp; omega))); clear b5))
          go_ret
          exact ⟨rfl, B5.out⟩
      · subst h2
        have g1 : ¬ 0 ≤ r := by omega
        cases ub <;> rcases hsame with hs | ⟨hs, rfl, rfl⟩
        all_goals
          go_wp2_with (first
            | (go_at_call 10; with_reducible refine (HI.out _).mono ?_; rintro e w3 ⟨rfl, b3⟩; have s3 := b3.size; have B3 := Lib.hid (B2.out.trans (b3.mono B2.out.size)); clear b3)
            | (go_at_call 10; with_reducible refine (HJ.out _).mono ?_; rintro e w4 ⟨rfl, b4⟩; have XX := two_box 23 b4; have B4 := Lib.hid ((B3.out.alloc B3.out.size _).trans (b4.mono (by have := B3.out.size; simp; omega))); have x0 : w4.cell? ⟨w3.heap.size, 0, none⟩ = some (.int .u8 p) := (by simpa using XX.cell 0); have x1 : w4.cell? ⟨w3.heap.size, 1, none⟩ = some (.int .u8 m) := (by simpa using XX.cell 1); have sx := XX.lt; clear b4 XX)
            | (go_at_call 12; refine (alive_yes _).mono ?_; rintro e w5 ⟨rfl, b5⟩; have B5 := Lib.hid ((B4.out.alloc B4.out.size _).trans (b5.mono (by have := B4.out.size; simp; omega))); clear b5))
          go_ret
          exact ⟨rfl, B5.out⟩


/-! ### The row -/
set_option maxRecDepth 100000 in
theorem lifted (os : Os) (started : os.Started) (H : Type) (enc : TypeId × Value → H) :
    ReturnsInHanded {} Try.checked os 6 .any (Rows.ctxSlopesSpec.pre6 enc Try.prog Try.f6 Rows.ctxSlopesRow.domain false) (Rows.ctxSlopesSpec.post enc Try.prog Try.f6 false true false false) := by
  refine returnsInHanded_of_change (C := Try.checked) own started (by kernel_rfl) Try.func6
    (ChangeSpec.witness6 (enc := enc) (C := Try.checked) false ⟨#[], #[.int .i64 0, .int .i64 0], []⟩ 8 (by kernel_rfl) (by kernel_rfl) (by kernel_rfl) (by kernel_rfl)) ?_
  intro W base args ds gs before hval0 hW hcnd _
  have hval : ∀ (j : Nat) t v, Try.f6.params[j]? = some t → args[j]? = some v → Value.okWide Try.prog W .any base t v := hval0
  have hW' := hW
  obtain ⟨p, q, hA0, hV, rfl, hfz, hnd⟩ := hW
  have hA : DataW.TrodAll enc Try.prog W 0 (fun _ => true) true Try.f6.params.toList args.toList ds p := hA0
  rw [Try.params6] at hA hval
  obtain ⟨v0, vs0, d0, ds0, p0, q0, hargs, rfl, rfl, h0, r0⟩ := trodAll_cons hA
  obtain ⟨v1, vs1, d1, ds1, p1, q1, rfl, rfl, rfl, h1, r1⟩ := trodAll_cons r0
  obtain ⟨rfl, rfl, rfl⟩ := trodAll_nil r1
  obtain rfl : args = #[v0, v1] := by cases args; simp_all
  obtain ⟨rfl, rfl⟩ := trodVars_none hV
  obtain ⟨a0, rfl, rfl, rfl, w0⟩ := open_int Try.underlying3 (hval 0 3 v0 rfl rfl) h0
  obtain ⟨a1, rfl, rfl, rfl, w1⟩ := open_int Try.underlying3 (hval 1 3 v1 rfl rfl) h1
  clear hA0 hval0
  simp only [List.append_nil] at hW'
  refine (walk a0 a1 w0 w1 W).mono fun e W' ⟨he, hg⟩ => ?_
  subst he
  exact ⟨_, rfl, _, _, _, [], _, [], hW', trodAll_mk1 (shut_bool Try.underlying4 _), (trodAll_cons_mk (shut_int Try.underlying3 w0) (trodAll_cons_mk (shut_int Try.underlying3 w1) trodAll_mk0)), rfl, hg.frame _, fun h => by cases h⟩

theorem over : Rows.ctxSlopesRow.holds Try.pinned (OpenSpec.ofChange Rows.ctxSlopesSpec) :=
  OpenClaim.holds_of_wide 6 Try.f6 rfl rfl rfl rfl rfl rfl rfl ⟨rfl, rfl, rfl, rfl, rfl⟩ rfl rfl rfl rfl rfl (by kernel_rfl) Try.func6 (by kernel_rfl)
    (of_decide_eq_true (by kernel_rfl)) (by unfold Func.isWrapper; first | (rw [if_pos (by decide +kernel)]; kernel_rfl) | (rw [if_neg (by decide +kernel)]; exact ⟨rfl, rfl⟩))
    (fun os started H enc _ => lifted os started H enc)

/-- The statement. -/
theorem proved : Rows.CtxSlopesSaid :=
  over
#print axioms proved
end Go.Proofs.Ytomeiofieheggaa.ctxSlopes
