/- The reference's tables: their cells; State and See. -/
import Derived.Test.YtomeiofieheggaaSees
import Derived.Test.YtomeiofieheggaaRInit
import Derived.Deep.AppendLies
import Derived.Maps.AppendAt
import Derived.Deep.RegionHeld3
namespace Go.Proofs.Ytomeiofieheggaa
open Go.RowKit
set_option linter.unusedSimpArgs false
set_option linter.unusedVariables false

def cells2 (S : Nat → Int × Int) (k : Nat) : List Value := (List.range k).flatMap (fun i => [Value.int .u8 (S i).1, Value.int .u8 (S i).2])
theorem cells2_zero (S : Nat → Int × Int) : cells2 S 0 = [] := rfl
theorem cells2_succ (S : Nat → Int × Int) (k : Nat) : cells2 S (k + 1) = cells2 S k ++ [Value.int .u8 (S k).1, Value.int .u8 (S k).2] := by
  unfold cells2
  rw [List.range_succ, List.flatMap_append]
  simp
theorem cells2_len (S : Nat → Int × Int) : ∀ k, (cells2 S k).length = k * 2
  | 0 => rfl
  | k + 1 => by rw [cells2_succ, List.length_append, cells2_len S k]; simp; omega
theorem cells2_at (S : Nat → Int × Int) : ∀ k i, i < k → (cells2 S k)[i * 2]? = some (.int .u8 (S i).1) ∧ (cells2 S k)[i * 2 + 1]? = some (.int .u8 (S i).2)
  | 0, i, h => by omega
  | k + 1, i, h => by
    rw [cells2_succ]
    by_cases e : i = k
    · subst e
      have hl := cells2_len S i
      rw [List.getElem?_append_right (by omega), List.getElem?_append_right (by omega), hl]
      simp
    · obtain ⟨a, b⟩ := cells2_at S k i (by omega)
      have hl := cells2_len S k
      rw [List.getElem?_append_left (by omega), List.getElem?_append_left (by omega)]
      exact ⟨a, b⟩

/-- Block h is a table of the reference whose states lie in block r. -/
def RTab (w : World) (h r : Nat) (S : Nat → Int × Int) : Prop :=
  ∃ cap cs, Box w h 61 #[.slice (some ⟨r, 0, none⟩) 286 cap] ∧ Box w r 23 cs ∧ r ≠ h ∧ 572 ≤ cs.size ∧ ∀ i, i < 286 → cs[i * 2]? = some (.int .u8 (S i).1) ∧ cs[i * 2 + 1]? = some (.int .u8 (S i).2)

theorem RTab.lt {w : World} {h r : Nat} {S : Nat → Int × Int} (t : RTab w h r S) : h < w.heap.size ∧ r < w.heap.size ∧ r ≠ h := by
  obtain ⟨cap, cs, a, b, c, _⟩ := t; exact ⟨a.lt, b.lt, c⟩
theorem RTab.cells {w : World} {h r : Nat} {S : Nat → Int × Int} (t : RTab w h r S) (k : Nat) (hk : k < 286) :
    (∃ cap, w.cell? ⟨h, 0, none⟩ = some (.slice (some ⟨r, 0, none⟩) 286 cap)) ∧ w.cell? ⟨r, k * 2, none⟩ = some (.int .u8 (S k).1) ∧ w.cell? ⟨r, k * 2 + 1, none⟩ = some (.int .u8 (S k).2) ∧ w.frozen? ⟨r, k * 2, none⟩ = false ∧ w.frozen? ⟨r, k * 2 + 1, none⟩ = false := by
  obtain ⟨cap, cs, a, b, c, d, e⟩ := t
  exact ⟨⟨cap, by simpa using a.cell 0⟩, (b.cell _).trans (e k hk).1, (b.cell _).trans (e k hk).2, b.frozen _, b.frozen _⟩
theorem RTab.below {w w' : World} {h r B : Nat} {S : Nat → Int × Int} (t : RTab w h r S) (hb : Below B w w') (h1 : h < B) (h2 : r < B) : RTab w' h r S := by
  obtain ⟨cap, cs, a, b, c⟩ := t; exact ⟨cap, cs, a.below hb h1, b.below hb h2, c⟩
theorem RTab.same {w w' : World} {h r : Nat} {S : Nat → Int × Int} (t : RTab w h r S) (hb : Below w.heap.size w w') : RTab w' h r S := t.below hb t.lt.1 t.lt.2.1
theorem RTab.alloc {w : World} {h r : Nat} {S : Nat → Int × Int} (t : RTab w h r S) (o : Obj) : RTab (w.alloc o) h r S := t.same ((Below.refl _ w).alloc (Nat.le_refl _) o)
theorem RTab.drewN {w : World} {h r : Nat} {S : Nat → Int × Int} (t : RTab w h r S) (n : Nat) : RTab (w.drewN n) h r S := t
theorem RTab.ext {w : World} {h r : Nat} {S T : Nat → Int × Int} (t : RTab w h r S) (e : ∀ i, i < 286 → S i = T i) : RTab w h r T := by
  obtain ⟨cap, cs, a, b, c, d, f⟩ := t
  exact ⟨cap, cs, a, b, c, d, fun i hi => by rw [← e i hi]; exact f i hi⟩
theorem RTab.far {g w w' h r} {S : Nat → Int × Int} (f : Far g w w') (t : RTab w h r S) (h1 : h ≠ g) (h2 : r ≠ g) : RTab w' h r S := by
  obtain ⟨cap, cs, a, b, c⟩ := t; exact ⟨cap, cs, f.box a h1, f.box b h2, c⟩
theorem RTab.farSet {w : World} {h r : Nat} {S : Nat → Int × Int} (t : RTab w h r S) {p : Addr} (h1 : h ≠ p.block) (h2 : r ≠ p.block) (u : Value) : RTab (w.setCell p u) h r S := by
  obtain ⟨cap, cs, a, b, c⟩ := t; exact ⟨cap, cs, a.far h1 u, b.far h2 u, c⟩
theorem RTab.set {w : World} {h r : Nat} {S : Nat → Int × Int} (t : RTab w h r S) (k : Nat) (hk : k < 286) (p m : Int) :
    RTab ((w.setCell ⟨r, k * 2, none⟩ (.int .u8 p)).setCell ⟨r, k * 2 + 1, none⟩ (.int .u8 m)) h r (upd S k (p, m)) := by
  obtain ⟨cap, cs, a, b, c, d, e⟩ := t
  refine ⟨cap, _, (a.far (p := ⟨r, k * 2, none⟩) (Ne.symm c) _).far (p := ⟨r, k * 2 + 1, none⟩) (Ne.symm c) _, (b.set _ _).set _ _, c, by simpa using d, fun i hi => ?_⟩
  obtain ⟨f1, f2⟩ := e i hi
  have z1 : k * 2 < cs.size := by omega
  have z2 : k * 2 + 1 < cs.size := by omega
  by_cases g : i = k
  · subst g
    simp [upd, Array.getElem?_setIfInBounds, z1, z2]
  · simp [upd, g, Array.getElem?_setIfInBounds, z1, z2]
    refine ⟨?_, ?_⟩
    · rw [if_neg (by omega), if_neg (by omega)]; exact f1
    · rw [if_neg (by omega), if_neg (by omega)]; exact f2

theorem rtab_of_own {w : World} {h base : Nat} {v : Value} {S : Nat → Int × Int} (hx : Box w h 61 #[v]) (ho : w.ownsRow base 23 2 v 286 (cells2 S 286)) (hb : ∀ g, v.ownBlock = some g → g ≠ h) : ∃ r, RTab w h r S ∧ base ≤ r := by
  rcases ho.2 with ⟨_, h0⟩ | ⟨g, cap, cur, rfl, hg, hh, hc, hm, hs, ht⟩
  · omega
  · refine ⟨g, ⟨cap, cur, hx, hh, hb g rfl, by omega, fun i hi => ?_⟩, hg⟩
    obtain ⟨a, b⟩ := cells2_at S 286 i hi
    rw [← ht, List.getElem?_take, if_pos (by omega)] at a b
    exact ⟨by simpa using a, by simpa using b⟩

theorem rtab_news {w : World} {h r : Nat} {S : Nat → Int × Int} (t : RTab w h r S) : ∀ j u, (cells2 S 286)[j]? = some u → w.cell? ((⟨r, 0, none⟩ : Addr).add j) = some u := by
  intro j u hu
  have hj : j < 572 := by
    have := (List.getElem?_eq_some_iff.1 hu).1
    rw [cells2_len] at this
    omega
  have hadd : (⟨r, 0, none⟩ : Addr).add j = ⟨r, j, none⟩ := by unfold Addr.add; split <;> simp_all
  rw [hadd]
  obtain ⟨i, hi⟩ : ∃ i, j = i * 2 ∨ j = i * 2 + 1 := ⟨j / 2, by omega⟩
  obtain ⟨_, c0, c1, _, _⟩ := t.cells i (by omega)
  obtain ⟨a, b⟩ := cells2_at S 286 i (by omega)
  rcases hi with rfl | rfl
  · rw [a] at hu; injection hu with hu; rw [← hu]; exact c0
  · rw [b] at hu; injection hu with hu; rw [← hu]; exact c1

theorem rstate_no (h r : Nat) (S : Nat → Int × Int) (i : Int) (hi : i < 0 ∨ 286 ≤ i) (w : World) (t : RTab w h r S) :
    Calls Try.prog 24 #[.pointer (some ⟨h, 0, none⟩), .int .i64 i] w fun e w' => e = .returned (.tuple #[.agg #[.int .u8 0, .int .u8 0], .int .i64 3]) ∧ Below w.heap.size w w' := by
  obtain ⟨⟨cap, c0⟩, _⟩ := t.cells 0 (by omega)
  have hlt := t.lt.1
  have h' : i < 0 ∨ (¬ i < 0 ∧ 286 ≤ i) := by omega
  clear hi t
  rcases h' with h1 | ⟨h1, h2⟩
  all_goals
    go_enter Try.func24, Try.ntmps24
    go_wp2
    refine bodyPost_ret (v := .tuple #[.agg #[.int .u8 0, .int .u8 0], .int .i64 3]) (by simp [results, Try.f24, go_sem]) rfl ⟨rfl, ?_⟩
    repeat (first | exact Below.refl _ _ | refine Below.setCell ?_ (by simp) _ | refine Below.alloc ?_ (by simp) _)

set_option maxRecDepth 100000 in
theorem rstate_yes (h r : Nat) (S : Nat → Int × Int) (k : Nat) (hk : k < 286) (w : World) (t : RTab w h r S) :
    Calls Try.prog 24 #[.pointer (some ⟨h, 0, none⟩), .int .i64 (k : Int)] w fun e w' => e = .returned (.tuple #[.agg #[.int .u8 (S k).1, .int .u8 (S k).2], .int .i64 0]) ∧ Below w.heap.size w w' := by
  obtain ⟨⟨cap, c0⟩, d0, d1, d2, d3⟩ := t.cells k hk
  obtain ⟨l1, l2, l3⟩ := t.lt
  generalize (S k).1 = x at *
  generalize (S k).2 = y at *
  clear t
  have k1 : (k : Int) < 286 := by omega
  have k2 : ¬ (286 : Int) ≤ k := by omega
  go_enter Try.func24, Try.ntmps24
  go_wp2
  refine bodyPost_ret (v := .tuple #[.agg #[.int .u8 x, .int .u8 y], .int .i64 0]) (by simp [results, Try.f24, go_sem]) rfl ⟨rfl, ?_⟩
  repeat (first | exact Below.refl _ _ | refine Below.setCell ?_ (by simp) _ | refine Below.alloc ?_ (by simp) _)

theorem rstate_any (h r : Nat) (S : Nat → Int × Int) (i : Int) (w : World) (t : RTab w h r S) :
    Calls Try.prog 24 #[.pointer (some ⟨h, 0, none⟩), .int .i64 i] w fun e w' => e = .returned (.tuple #[.agg #[.int .u8 (stP S i), .int .u8 (stM S i)], .int .i64 (stE i)]) ∧ Below w.heap.size w w' := by
  unfold stP stM stE
  by_cases hi : 0 ≤ i ∧ i < 286
  · simp only [if_pos hi]
    obtain ⟨k, rfl⟩ : ∃ k : Nat, i = k := ⟨i.toNat, by omega⟩
    exact rstate_yes h r S k (by omega) w t
  · simp only [if_neg hi]
    exact rstate_no h r S i (by omega) w t

theorem rsee_no (h r : Nat) (S : Nat → Int × Int) (i b : Int) (hi : i < 0 ∨ 286 ≤ i) (w : World) (t : RTab w h r S) :
    Calls Try.prog 23 #[.pointer (some ⟨h, 0, none⟩), .int .i64 i, .int .u8 b] w fun e w' => e = .returned (.int .i64 3) ∧ Below w.heap.size w w' := by
  have HS := Lib.hid (rstate_no h r S i hi w t)
  clear hi t
  go_enter Try.func23, Try.ntmps23
  go_wp2_with (go_at_call 24; refine HS.out.mono ?_; rintro e w1 ⟨rfl, b1⟩; have B1 := Lib.hid b1; clear b1)
  go_ret
  exact ⟨rfl, B1.out.alloc B1.out.size _⟩

set_option maxRecDepth 100000 in
set_option maxHeartbeats 4000000 in
theorem rsee_bad (h r : Nat) (S : Nat → Int × Int) (k : Nat) (b : Int) (hk : k < 286) (h0 : 0 ≤ (S k).1) (h1 : 0 ≤ (S k).2) (b0 : 0 ≤ b) (he : nxtE (S k).1 (S k).2 b = 3) (w : World) (hT : RTab w h r S) :
    Calls Try.prog 23 #[.pointer (some ⟨h, 0, none⟩), .int .i64 (k : Int), .int .u8 b] w fun e w' => e = .returned (.int .i64 3) ∧ Below w.heap.size w w' := by
  have HS := Lib.hid (rstate_yes h r S k hk w hT)
  have HN := Lib.hid (fun w => next_any (S k).1 (S k).2 b h0 h1 b0 w 26 (.inr rfl))
  obtain ⟨hg, hg2, _⟩ := hT.lt
  rw [he] at HN
  generalize nxtP (S k).1 (S k).2 b = x' at *
  generalize nxtM (S k).1 (S k).2 b = y' at *
  generalize (S k).1 = x at *
  generalize (S k).2 = y at *
  clear hT he h0 h1 b0
  have hk' : (k : Int) < 286 := by omega
  go_enter Try.func23, Try.ntmps23
  go_wp2_with (first
    | (go_at_call 24; refine HS.out.mono ?_; rintro e w1 ⟨rfl, b1⟩; have hl1 := b1.size; have B1 := Lib.hid b1; clear b1)
    | (go_at_call 26; refine (HN.out _).mono ?_; rintro e w2 ⟨rfl, b2⟩; have hx := (Box.new w1 23 #[.int .u8 x, .int .u8 y]).below b2 (by simp); have hl2 := hx.lt; have f0 := hx.cell 0; have f1 := hx.cell 1; have f2 := hx.frozen 0; have f3 := hx.frozen 1; simp only [List.getElem?_toArray, List.getElem?_cons_zero, List.getElem?_cons_succ] at f0 f1; have B2 := Lib.hid (B1.out.trans ((((Below.refl _ w1).alloc (Nat.le_refl _) _).trans (b2.mono (by simp))).mono B1.out.size)); clear b2 hx))
  go_ret
  refine ⟨rfl, (B2.out.setCell (by simp; omega) _).setCell (by simp; omega) _⟩

set_option maxRecDepth 100000 in
set_option maxHeartbeats 4000000 in
theorem rsee_ok (h r : Nat) (S : Nat → Int × Int) (k : Nat) (b : Int) (hk : k < 286) (h0 : 0 ≤ (S k).1) (h1 : 0 ≤ (S k).2) (b0 : 0 ≤ b) (he : nxtE (S k).1 (S k).2 b = 0) (w : World) (hT : RTab w h r S) :
    Calls Try.prog 23 #[.pointer (some ⟨h, 0, none⟩), .int .i64 (k : Int), .int .u8 b] w fun e w' => e = .returned (.int .i64 0) ∧ RTab w' h r (upd S k (nxtP (S k).1 (S k).2 b, nxtM (S k).1 (S k).2 b)) ∧ Far r w w' := by
  have HS := Lib.hid (rstate_yes h r S k hk w hT)
  have HN := Lib.hid (fun w => next_any (S k).1 (S k).2 b h0 h1 b0 w 26 (.inr rfl))
  have T0 := Lib.hid hT
  obtain ⟨hg, hg2, hg3⟩ := hT.lt
  rw [he] at HN
  generalize nxtP (S k).1 (S k).2 b = x' at *
  generalize nxtM (S k).1 (S k).2 b = y' at *
  generalize hsx : (S k).1 = x at *
  generalize hsy : (S k).2 = y at *
  clear hsx hsy
  clear hT he h0 h1 b0
  have hk' : (k : Int) < 286 := by omega
  have hk0 : (0 : Int) ≤ (k : Int) := by omega
  go_enter Try.func23, Try.ntmps23
  go_wp2_with (first
    | (go_at_call 24; refine HS.out.mono ?_; rintro e w1 ⟨rfl, b1⟩; have hl1 := b1.size; have B1 := Lib.hid b1; clear b1)
    | (go_at_call 26; refine (HN.out _).mono ?_; rintro e w2 ⟨rfl, b2⟩; have hx := (Box.new w1 23 #[.int .u8 x, .int .u8 y]).below b2 (by simp); have T2 := ((T0.out.same B1.out).alloc (.cells #[.int .u8 x, .int .u8 y] 23)).same b2; obtain ⟨⟨cap, d4⟩, d0, d1, d2, d3⟩ := T2.cells k hk; clear d0 d1; have hl2 := hx.lt; have f0 := hx.cell 0; have f1 := hx.cell 1; have f2 := hx.frozen 0; have f3 := hx.frozen 1; simp only [List.getElem?_toArray, List.getElem?_cons_zero, List.getElem?_cons_succ] at f0 f1; have TT := Lib.hid T2; have B2 := Lib.hid (B1.out.trans ((((Below.refl _ w1).alloc (Nat.le_refl _) _).trans (b2.mono (by simp))).mono B1.out.size)); clear b2 hx T2))
  have hne : r ≠ w1.heap.size := by omega
  have hne2 : h ≠ w1.heap.size := by omega
  have hT5 := Lib.hid ((TT.out.farSet (p := ⟨w1.heap.size, 0, none⟩) hne2 hne (.int .u8 x')).farSet (p := ⟨w1.heap.size, 1, none⟩) hne2 hne (.int .u8 y'))
  obtain ⟨⟨_, _⟩, d0, d1, _, _⟩ := hT5.out.cells k hk
  go_region
  all_goals
    go_wp2_with (fail)
    go_ret
    exact ⟨rfl, (hT5.out.drewN 1).set k hk x' y', (((((Far.of_below B2.out).setNew (by simp; omega) _).setNew (by simp; omega) _).drewN 1).set _ _).set _ _⟩

theorem rsee_any (h r : Nat) (S : Nat → Int × Int) (i b : Int) (hS : Good S) (b0 : 0 ≤ b) (w : World) (hT : RTab w h r S) :
    Calls Try.prog 23 #[.pointer (some ⟨h, 0, none⟩), .int .i64 i, .int .u8 b] w fun e w' => e = .returned (.int .i64 (seeE i b)) ∧ RTab w' h r (seeS S i b) ∧ Far r w w' := by
  unfold seeE seeS
  by_cases hi : 0 ≤ i ∧ i < 286
  · obtain ⟨k, rfl⟩ : ∃ k : Nat, i = k := ⟨i.toNat, by omega⟩
    have hk : k < 286 := by omega
    obtain ⟨p0, p1, m0, m1⟩ := hS k hk
    by_cases hb : b ≤ 1
    · rw [if_pos ⟨hi.1, hi.2, hb⟩, if_pos ⟨hi.1, hi.2, hb⟩]
      exact rsee_ok h r S k b hk p0 m0 b0 (by unfold nxtE; rw [if_pos ⟨p1, m1, hb⟩]) w hT
    · rw [if_neg (by omega), if_neg (by omega)]
      refine (rsee_bad h r S k b hk p0 m0 b0 (by unfold nxtE; rw [if_neg (by omega)]) w hT).mono ?_
      rintro e w' ⟨rfl, hB⟩
      exact ⟨rfl, hT.same hB, Far.of_below hB⟩
  · rw [if_neg (by omega), if_neg (by omega)]
    refine (rsee_no h r S i b (by omega) w hT).mono ?_
    rintro e w' ⟨rfl, hB⟩
    exact ⟨rfl, hT.same hB, Far.of_below hB⟩

end Go.Proofs.Ytomeiofieheggaa
