/- Contracts of the small functions of the seat runs: sized, ranged, Ones, CopyInts, EqualInts, EqualRuns. -/
import Derived.Test.YtcaglhodkdfncaaProg
import Derived.WalkKit
import Derived.Below
import Derived.Lib.Hide
import Derived.Handy
import Derived.Deep.QuietTactic
import Derived.BigQuiet
import Derived.Maps.AppendAt
namespace Go.Proofs.Ytcaglhodkdfncaa
open Go.RowKit

/-- The slice value sv holds the ints zs. -/
def Ints (W : World) (sv : Value) (zs : List Int) : Prop :=
  (∃ a cap, sv = .slice a 0 cap ∧ zs = []) ∨
  ∃ b off cap, sv = .slice (some ⟨b, off, none⟩) zs.length cap ∧ 0 < zs.length ∧ zs.length ≤ 4096 ∧ Hid (∀ j, j < zs.length → W.cell? ⟨b, off + j, none⟩ = some (.int .i64 (zs[j]?.getD 0)))

theorem Ints.len {W : World} {sv : Value} {zs : List Int} (h : Ints W sv zs) : zs.length ≤ 4096 := by
  rcases h with ⟨a, cap, _, rfl⟩ | ⟨b, off, cap, _, _, h, _⟩
  · simp
  · omega

theorem Ints.form {W : World} {sv : Value} {zs : List Int} (h : Ints W sv zs) : ∃ a cap, sv = .slice a zs.length cap := by
  rcases h with ⟨a, cap, e, rfl⟩ | ⟨b, off, cap, e, _⟩
  · exact ⟨a, cap, e⟩
  · exact ⟨_, cap, e⟩

theorem Ints.below {W W' : World} {sv : Value} {zs : List Int} (h : Ints W sv zs) (hb : Below W.heap.size W W') : Ints W' sv zs := by
  rcases h with h | ⟨b, off, cap, e, h0, hl, hc⟩
  · exact .inl h
  · exact .inr ⟨b, off, cap, e, h0, hl, fun j hj => (hb.cell (p := ⟨b, off + j, none⟩) (World.block_lt_of_cell? _ _ (hc.out j hj))).trans (hc.out j hj)⟩

theorem _root_.Go.RowKit.Below.drewN {B : Nat} {a w : World} (h : Below B a w) (n : Nat) : Below B a (w.drewN n) := ⟨h.os, h.tape, h.output, h.size, h.block⟩

set_option maxHeartbeats 400000 in
theorem sized_yes (f : Nat) (hf : f = 22 ∨ f = 25) (n : Int) (w : World) (h : n = 4 ∨ n = 15 ∨ n = 16) :
    Calls Try.prog f #[.int .i64 n] w fun e w' => e = .returned (.bool true) ∧ w = w' := by
  rcases hf with rfl | rfl <;> rcases h with rfl | rfl | rfl
  all_goals
    first | go_enter Try.func22, Try.ntmps22 | go_enter Try.func25, Try.ntmps25
    go_wp2
    go_ret
    exact ⟨rfl, rfl⟩

set_option maxHeartbeats 400000 in
theorem sized_no (f : Nat) (hf : f = 22 ∨ f = 25) (n : Int) (w : World) (h4 : ¬ n = 4) (h15 : ¬ n = 15) (h16 : ¬ n = 16) :
    Calls Try.prog f #[.int .i64 n] w fun e w' => e = .returned (.bool false) ∧ w = w' := by
  have e1 : (n == 4) = false := by simp [h4]
  have e2 : (n == 15) = false := by simp [h15]
  have e3 : (n == 16) = false := by simp [h16]
  clear h4 h15 h16
  rcases hf with rfl | rfl
  all_goals
    first | go_enter Try.func22, Try.ntmps22 | go_enter Try.func25, Try.ntmps25
    go_wp2
    go_ret
    exact ⟨rfl, rfl⟩

/-- A cell's number under a name of its own: the walk would write zs[k] for it. -/
theorem named {zs : List Int} {k b off : Nat} {w : World} (h : Hid (∀ j, j < zs.length → w.cell? ⟨b, off + j, none⟩ = some (.int .i64 (zs[j]?.getD 0)))) (hk : k < zs.length) :
    ∃ v, w.cell? ⟨b, off + k, none⟩ = some (.int .i64 v) ∧ Hid (zs[k]?.getD 0 = v) := ⟨_, h k hk, rfl⟩
/-- .. in a later world. -/
theorem named_below {zs : List Int} {k b off : Nat} {w w' : World} (h : Hid (∀ j, j < zs.length → w.cell? ⟨b, off + j, none⟩ = some (.int .i64 (zs[j]?.getD 0)))) (hk : k < zs.length) (hb : Below w.heap.size w w') :
    ∃ v, w'.cell? ⟨b, off + k, none⟩ = some (.int .i64 v) ∧ Hid (zs[k]?.getD 0 = v) := ⟨_, (hb.cell (p := ⟨b, off + k, none⟩) (World.block_lt_of_cell? _ _ (h k hk))).trans (h k hk), rfl⟩

/-- An element of a slice that holds ints. -/
theorem Ints.at_ {W : World} {a : Option Addr} {n cap k : Nat} {zs : List Int} (h : Ints W (.slice a n cap) zs) (hk : k < zs.length) :
    ∃ b off v, a = some ⟨b, off, none⟩ ∧ W.cell? ⟨b, off + k, none⟩ = some (.int .i64 v) ∧ Hid (zs[k]?.getD 0 = v) := by
  rcases h with ⟨a', cap', _, rfl⟩ | ⟨b, off, cap', e, _, _, hc⟩
  · simp at hk
  · injection e with e1 _ _
    exact ⟨b, off, _, e1, hc.out k hk, rfl⟩

def Fits (zs : List Int) : Prop := ∀ v ∈ zs, -32768 ≤ v ∧ v ≤ 32768

set_option maxHeartbeats 400000 in
theorem ranged_yes (sv : Value) (zs : List Int) (w : World) (h : Ints w sv zs) (hz : Fits zs) :
    Calls Try.prog 23 #[sv] w fun e w' => e = .returned (.bool true) ∧ w = w' := by
  rcases h with ⟨a, cap, rfl, rfl⟩ | ⟨b, off, cap, rfl, h0, hl, hc⟩
  · go_enter Try.func23, Try.ntmps23
    go_wp2
    go_rounds 1
    go_ret
    exact ⟨rfl, rfl⟩
  · go_enter Try.func23, Try.ntmps23
    go_wp2
    go_loop [4, 7] (fun _ i => ∃ k : Nat, k ≤ zs.length ∧ i = .int .i64 k) (fun _ i => zs.length - (intOf i).toNat)
    case atStart => exact ⟨0, Nat.zero_le _, rfl⟩
    case round =>
      obtain ⟨k, hk, rfl⟩ := hrel
      by_cases hlt : k < zs.length
      · have hf := hz (zs[k]?.getD 0) (by simp [hlt])
        obtain ⟨v, hcx, HV⟩ := named hc hlt
        rw [HV.out] at hf
        obtain ⟨f1, f2⟩ := hf
        have hlt' : ¬ v < -32768 := by omega
        have hlt'' : ¬ 32768 < v := by omega
        go_wp2
        go_round
        case rel => exact ⟨k + 1, by omega, by go_num⟩
        case measure => simp [intOf]; omega
      · obtain rfl : k = zs.length := by omega
        go_wp2
        go_ret
        exact ⟨rfl, rfl⟩

theorem not_fits {zs : List Int} (h : ¬ Fits zs) : ∃ k, k < zs.length ∧ (∀ j, j < k → -32768 ≤ zs[j]?.getD 0 ∧ zs[j]?.getD 0 ≤ 32768) ∧ (zs[k]?.getD 0 < -32768 ∨ (-32768 ≤ zs[k]?.getD 0 ∧ 32768 < zs[k]?.getD 0)) := by
  induction zs with
  | nil => exact absurd (fun v hv => by simp at hv) h
  | cons a r ih =>
    by_cases ha : -32768 ≤ a ∧ a ≤ 32768
    · obtain ⟨k, h1, h2, h3⟩ := ih (fun hr => h (fun v hv => by rcases List.mem_cons.1 hv with rfl | hv; exact ha; exact hr v hv))
      refine ⟨k + 1, by simp; omega, ?_, by simpa using h3⟩
      intro j hj
      cases j with
      | zero => simpa using ha
      | succ j => simpa using h2 j (by omega)
    · exact ⟨0, by simp, fun j hj => by omega, by simp; omega⟩

set_option maxHeartbeats 400000 in
theorem ranged_no (sv : Value) (zs : List Int) (w : World) (h : Ints w sv zs) (hz : ¬ Fits zs) :
    Calls Try.prog 23 #[sv] w fun e w' => e = .returned (.bool false) ∧ w = w' := by
  obtain ⟨m, hm, hbefore, hat⟩ := not_fits hz
  have HB := Lib.hid hbefore
  clear hbefore hz
  rcases h with ⟨a, cap, rfl, rfl⟩ | ⟨b, off, cap, rfl, h0, hl, hc⟩
  · simp at hm
  · go_enter Try.func23, Try.ntmps23
    go_wp2
    go_loop [4, 7] (fun _ i => ∃ k : Nat, k ≤ m ∧ i = .int .i64 k) (fun _ i => zs.length - (intOf i).toNat)
    case atStart => exact ⟨0, Nat.zero_le _, rfl⟩
    case round =>
      obtain ⟨k, hk, rfl⟩ := hrel
      obtain ⟨v, hcx, HV⟩ := named hc (k := k) (by omega)
      by_cases hlt : k < m
      · have hf := HB.out k hlt
        rw [HV.out] at hf
        obtain ⟨f1, f2⟩ := hf
        clear hat
        have hlt' : ¬ v < -32768 := by omega
        have hlt'' : ¬ 32768 < v := by omega
        go_wp2
        go_round
        case rel => exact ⟨k + 1, by omega, by go_num⟩
        case measure => simp [intOf]; omega
      · obtain rfl : k = m := by omega
        rw [HV.out] at hat
        rcases hat with h1 | ⟨h1, h2⟩
        · go_wp2
          go_ret
          exact ⟨rfl, rfl⟩
        · have h1' : ¬ v < -32768 := by omega
          go_wp2
          go_ret
          exact ⟨rfl, rfl⟩

set_option maxHeartbeats 400000 in
theorem rranged_yes (sv : Value) (zs : List Int) (w : World) (h : Ints w sv zs) (hz : Fits zs) :
    Calls Try.prog 26 #[sv] w fun e w' => e = .returned (.bool true) ∧ w = w' := by
  rcases h with ⟨a, cap, rfl, rfl⟩ | ⟨b, off, cap, rfl, h0, hl, hc⟩
  · go_enter Try.func26, Try.ntmps26
    go_wp2
    go_rounds 1
    go_ret
    exact ⟨rfl, rfl⟩
  · go_enter Try.func26, Try.ntmps26
    go_wp2
    go_loop [3] (fun i => ∃ k : Nat, k ≤ zs.length ∧ i = .int .i64 k) (fun i => zs.length - (intOf i).toNat)
    case atStart => exact ⟨0, Nat.zero_le _, rfl⟩
    case round =>
      obtain ⟨k, hk, rfl⟩ := hrel
      by_cases hlt : k < zs.length
      · have hf := hz (zs[k]?.getD 0) (by simp [hlt])
        obtain ⟨v, hcx, HV⟩ := named hc hlt
        rw [HV.out] at hf
        obtain ⟨f1, f2⟩ := hf
        have hlt' : ¬ v < -32768 := by omega
        have hlt'' : ¬ 32768 < v := by omega
        go_wp2
        go_round
        case rel => exact ⟨k + 1, by omega, by go_num⟩
        case measure => simp [intOf]; omega
      · obtain rfl : k = zs.length := by omega
        go_wp2
        go_ret
        exact ⟨rfl, rfl⟩

set_option maxHeartbeats 400000 in
theorem rranged_no (sv : Value) (zs : List Int) (w : World) (h : Ints w sv zs) (hz : ¬ Fits zs) :
    Calls Try.prog 26 #[sv] w fun e w' => e = .returned (.bool false) ∧ w = w' := by
  obtain ⟨m, hm, hbefore, hat⟩ := not_fits hz
  have HB := Lib.hid hbefore
  clear hbefore hz
  rcases h with ⟨a, cap, rfl, rfl⟩ | ⟨b, off, cap, rfl, h0, hl, hc⟩
  · simp at hm
  · go_enter Try.func26, Try.ntmps26
    go_wp2
    go_loop [3] (fun i => ∃ k : Nat, k ≤ m ∧ i = .int .i64 k) (fun i => zs.length - (intOf i).toNat)
    case atStart => exact ⟨0, Nat.zero_le _, rfl⟩
    case round =>
      obtain ⟨k, hk, rfl⟩ := hrel
      obtain ⟨v, hcx, HV⟩ := named hc (k := k) (by omega)
      have hkl : k < zs.length := by omega
      by_cases hlt : k < m
      · have hf := HB.out k hlt
        rw [HV.out] at hf
        obtain ⟨f1, f2⟩ := hf
        clear hat
        have hlt' : ¬ v < -32768 := by omega
        have hlt'' : ¬ 32768 < v := by omega
        go_wp2
        go_round
        case rel => exact ⟨k + 1, by omega, by go_num⟩
        case measure => simp [intOf]; omega
      · obtain rfl : k = m := by omega
        rw [HV.out] at hat
        rcases hat with h1 | ⟨h1, h2⟩
        · go_wp2
          go_ret
          exact ⟨rfl, rfl⟩
        · have h1' : ¬ v < -32768 := by omega
          go_wp2
          go_ret
          exact ⟨rfl, rfl⟩

set_option maxHeartbeats 400000 in
theorem equalInts_same (sa sb : Value) (zs : List Int) (w : World) (ha : Ints w sa zs) (hb : Ints w sb zs) :
    Calls Try.prog 14 #[sa, sb] w fun e w' => e = .returned (.bool true) ∧ Below w.heap.size w w' := by
  rcases ha with ⟨a, cap, rfl, rfl⟩ | ⟨b, off, cap, rfl, h0, hl, hc⟩
  · rcases hb with ⟨a, cap, rfl, _⟩ | ⟨b, off, cap, rfl, h0, hl, hc⟩
    · go_enter Try.func14, Try.ntmps14
      go_wp2
      go_rounds 1
      go_ret
      exact ⟨rfl, Below.refl _ _⟩
    · simp at h0
  · rcases hb with ⟨a, cap, rfl, rfl⟩ | ⟨b', off', cap', rfl, _, _, hc'⟩
    · simp at h0
    · have hne : ((zs.length : Int) != (zs.length : Int)) = false := by simp
      go_enter Try.func14, Try.ntmps14
      go_wp2
      go_loopw [5] (fun i wr => ∃ k : Nat, k ≤ zs.length ∧ i = .int .i64 k ∧ Below w.heap.size w wr) (fun i _ => zs.length - (intOf i).toNat)
      case atStart => exact ⟨0, Nat.zero_le _, rfl, Below.refl _ _⟩
      case round =>
        obtain ⟨k, hk, rfl, hB⟩ := hrel
        by_cases hlt : k < zs.length
        · obtain ⟨v, hcx, HV⟩ := named_below hc hlt hB
          obtain ⟨v', hcx', HV'⟩ := named_below hc' hlt hB
          obtain rfl : v = v' := HV.out.symm.trans HV'.out
          have hne' : (v != v) = false := by simp
          have i0 : (0 : Int) ≤ (k : Int) := by omega
          have i1 : (k : Int) < (zs.length : Int) := by omega
          go_wp2
          go_quiet (fail)
          go_wp2
          go_roundw
          case rel => exact ⟨k + 1, by omega, by go_num, hB.drewN _⟩
          case measure => simp [intOf]; omega
        · obtain rfl : k = zs.length := by omega
          go_wp2
          go_ret
          exact ⟨rfl, hB⟩

theorem info3 : (Try.prog.info? 3).map (fun i => (i.zero, i.size, i.bytes)) = some (some (.int .i64 0), 1, 8) := by kernel_rfl

theorem news_of {zs : List Int} {w : World} {b off : Nat} (h : Hid (∀ j, j < zs.length → w.cell? ⟨b, off + j, none⟩ = some (.int .i64 (zs[j]?.getD 0)))) :
    ∀ j u, (zs.map (Value.int .i64))[j]? = some u → w.cell? ((⟨b, off, none⟩ : Addr).add j) = some u := by
  intro j u hu
  have hadd : (⟨b, off, none⟩ : Addr).add j = ⟨b, off + j, none⟩ := by unfold Addr.add; split <;> simp_all
  rw [List.getElem?_map] at hu
  by_cases hj : j < zs.length
  · rw [hadd, h j hj]
    rw [List.getElem?_eq_getElem hj] at hu ⊢
    simpa using hu
  · rw [List.getElem?_eq_none (by omega)] at hu; simp at hu

theorem one_int (zs : List Int) : ∀ u ∈ zs.map (Value.int .i64), u.oneCell' = true := by
  intro u hu; obtain ⟨x, _, rfl⟩ := List.mem_map.1 hu; rfl

/-- What the call owns reads as its ints. -/
theorem ints_of_own {w : World} {base n : Nat} {v : Value} {zs : List Int} (h : w.ownsRow base 3 1 v n (zs.map (Value.int .i64))) (hl : zs.length ≤ 4096) : Ints w v zs ∧ n = zs.length := by
  have hn : n = zs.length := by have := h.1; simp at this; omega
  subst hn
  refine ⟨?_, rfl⟩
  rcases h.2 with ⟨rfl, h0⟩ | ⟨g, cap, cur, rfl, hb, hg, hc, hm, hs, ht⟩
  · exact .inl ⟨none, 0, by rw [], List.length_eq_zero_iff.1 h0⟩
  · by_cases h0 : zs.length = 0
    · exact .inl ⟨some ⟨g, 0, none⟩, cap, by rw [h0], List.length_eq_zero_iff.1 h0⟩
    · refine .inr ⟨g, 0, cap, rfl, by omega, hl, fun j hj => ?_⟩
      have := h.cells (g := g) rfl j (.int .i64 (zs[j]?.getD 0)) (by rw [List.getElem?_map, List.getElem?_eq_getElem hj]; rfl)
      have hadd : (⟨g, 0, none⟩ : Addr).add j = ⟨g, 0 + j, none⟩ := by unfold Addr.add; split <;> simp_all
      rwa [hadd] at this

set_option maxHeartbeats 400000 in
theorem copyInts (sv : Value) (zs : List Int) (w : World) (h : Ints w sv zs) :
    Calls Try.prog 10 #[sv] w fun e w' => ∃ v, e = .returned v ∧ w'.ownsRow w.heap.size 3 1 v zs.length (zs.map (Value.int .i64)) ∧ Below w.heap.size w w' := by
  obtain ⟨i0, hi, hz0, hz1, hz2⟩ := info_parts info3
  have hlen := h.len
  rcases h with ⟨a, cap, rfl, rfl⟩ | ⟨b, off, cap, rfl, h0, hl, hc⟩
  · rcases a with _ | ad
    · go_enter Try.func10, Try.ntmps10
      go_wp2
      go_ret
      exact ⟨_, rfl, World.ownsRow_nil _ _ _ _, Below.refl _ _⟩
    · go_enter Try.func10, Try.ntmps10
      go_wp2_with (at_builtin; refine wpList_append_own _ rfl _ _ 22 rfl w.heap.size 3 i0 (.int .i64 0) 1 8 Try.underlying22 hi hz0 hz1 hz2 rfl (by decide) (.slice none 0 0) 0 [] rfl (World.ownsRow_nil _ _ _ _) ad 0 cap [] rfl rfl (by simp) (by simp) (by simp [maxLen]) (by simp) (by simp) ?_; intro v' w1 hown' hgrow _)
      go_ret
      exact ⟨v', rfl, hown', (Below.refl _ w).grown hgrow (Nat.le_refl _) (by simp [Value.ownBlock])⟩
  · have hn := news_of hc
    have ho := one_int zs
    go_enter Try.func10, Try.ntmps10
    go_wp2_with (at_builtin; refine wpList_append_own _ rfl _ _ 22 rfl w.heap.size 3 i0 (.int .i64 0) 1 8 Try.underlying22 hi hz0 hz1 hz2 rfl (by decide) (.slice none 0 0) 0 [] rfl (World.ownsRow_nil _ _ _ _) ⟨b, off, none⟩ zs.length cap (zs.map (Value.int .i64)) rfl (by simp) hn ho (by simp [maxLen]; omega) (by omega) (by simp) ?_; intro v' w1 hown' hgrow _)
    go_ret
    exact ⟨v', rfl, by simpa using hown', (Below.refl _ w).grown hgrow (Nat.le_refl _) (by simp [Value.ownBlock])⟩

theorem bcell {W w1 : World} {B : Nat} (hb : Below B W w1) : (∀ b o, b < B → w1.cell? ⟨b, o, none⟩ = W.cell? ⟨b, o, none⟩) ∧ (∀ b o, b < B → w1.frozen? ⟨b, o, none⟩ = W.frozen? ⟨b, o, none⟩) :=
  ⟨fun b o h => hb.cell (p := ⟨b, o, none⟩) h, fun b o h => hb.frozen (p := ⟨b, o, none⟩) h⟩

set_option maxHeartbeats 400000 in
theorem equalRuns_same (sL sB sL' sB' : Value) (z : Int) (vs bs : List Int) (w : World) (h1 : Ints w sL vs) (h2 : Ints w sB bs) (h1' : Ints w sL' vs) (h2' : Ints w sB' bs) :
    Calls Try.prog 13 #[.agg #[sL, .int .i64 z, sB], .agg #[sL', .int .i64 z, sB']] w fun e w' => e = .returned (.bool true) ∧ Below w.heap.size w w' := by
  have hz : (z == z) = true := by simp
  obtain ⟨a1, c1, rfl⟩ := h1.form
  obtain ⟨a2, c2, rfl⟩ := h2.form
  obtain ⟨a1', c1', rfl⟩ := h1'.form
  obtain ⟨a2', c2', rfl⟩ := h2'.form
  have hb0 : Below w.heap.size w ((w.alloc (.cells #[.slice a1 vs.length c1, .int .i64 z, .slice a2 bs.length c2] 25)).alloc (.cells #[.slice a1' vs.length c1', .int .i64 z, .slice a2' bs.length c2'] 25)) := ((Below.refl _ w).alloc (Nat.le_refl _) _).alloc (by simp) _
  have g1 := h1.below hb0
  have g2 := h2.below hb0
  have g1' := h1'.below hb0
  have g2' := h2'.below hb0
  have HZ := Lib.hid hb0
  clear hb0 h1 h2 h1' h2'
  have h1 := Lib.hid g1
  have h2 := Lib.hid g2
  have h1' := Lib.hid g1'
  have h2' := Lib.hid g2'
  clear g1 g2 g1' g2'
  go_enter Try.func13, Try.ntmps13
  go_wp2_with (fail)
  refine (equalInts_same _ _ vs _ h1.out h1'.out).mono ?_
  rintro e w1 ⟨rfl, hb1⟩
  obtain ⟨hc, hf⟩ := bcell hb1
  go_wp2_with (fail)
  refine (equalInts_same _ _ bs _ (h2.out.below hb1) (h2'.out.below hb1)).mono ?_
  rintro e w2 ⟨rfl, hb2⟩
  go_wp2_with (fail)
  go_ret
  exact ⟨rfl, HZ.out.trans ((hb1.trans (hb2.mono hb1.size)).mono (by simp; omega))⟩

def isOne (v : Int) : Bool := v == 1 || v == -1
def onesL (vs : List Int) : Nat := ((vs.take 3).takeWhile isOne).length
theorem takeWhile_stop {p : Int → Bool} : ∀ (vs : List Int) (k : Nat), k ≤ vs.length → (∀ j, j < k → p (vs[j]?.getD 0) = true) → (k = vs.length ∨ p (vs[k]?.getD 0) = false) → (vs.takeWhile p).length = k
  | [], k, h, _, _ => by simp at h; simp [h]
  | v :: vs, 0, _, _, h => by
    rcases h with h | h
    · simp at h
    · simp at h; simp [h]
  | v :: vs, k + 1, hk, hj, h => by
    have h0 := hj 0 (by omega)
    simp at h0
    have := takeWhile_stop (p := p) vs k (by simpa using hk) (fun j hj' => by simpa using hj (j + 1) (by omega)) (by simpa using h)
    simp [h0, this]
theorem ones_stop (vs : List Int) (k : Nat) (h3 : k ≤ 3) (hl : k ≤ vs.length) (hj : ∀ j, j < k → isOne (vs[j]?.getD 0) = true) (hs : k = 3 ∨ k = vs.length ∨ isOne (vs[k]?.getD 0) = false) : onesL vs = k := by
  refine takeWhile_stop _ k (by simp; omega) (fun j hj' => ?_) ?_
  · rw [List.getElem?_take, if_pos (by omega)]; exact hj j hj'
  · by_cases h : k = 3
    · left; simp; omega
    · rcases hs with h' | h' | h'
      · exact absurd h' h
      · left; simp; omega
      · right; rw [List.getElem?_take, if_pos (by omega)]; exact h'

set_option maxHeartbeats 1000000 in
theorem ones_any (f : Nat) (hf : f = 17 ∨ f = 20) (sL : Value) (z : Int) (A : Option Addr) (N C : Nat) (vs : List Int) (w : World) (h1 : Ints w sL vs) :
    Calls Try.prog f #[.agg #[sL, .int .i64 z, .slice A N C]] w fun e w' => e = .returned (.int .i64 (onesL vs)) ∧ Below w.heap.size w w' := by
  rcases h1 with ⟨a, cap, rfl, rfl⟩ | ⟨b, off, cap, rfl, h0, hl, hc⟩
  · rcases hf with rfl | rfl
    all_goals
      first | go_enter Try.func17, Try.ntmps17 | go_enter Try.func20, Try.ntmps20
      go_wp2
      go_rounds 1
      go_ret
      exact ⟨rfl, (Below.refl _ w).alloc (Nat.le_refl _) _⟩
  · have hb0 : Below w.heap.size w (w.alloc (.cells #[.slice (some ⟨b, off, none⟩) vs.length cap, .int .i64 z, .slice A N C] 25)) := (Below.refl _ w).alloc (Nat.le_refl _) _
    have HB := Lib.hid hb0
    clear hb0
    rcases hf with rfl | rfl
    all_goals
      first | go_enter Try.func17, Try.ntmps17 | go_enter Try.func20, Try.ntmps20
      go_wp2
      go_loop [3] (fun i => ∃ k : Nat, k ≤ 3 ∧ k ≤ vs.length ∧ i = .int .i64 k ∧ Hid (∀ j, j < k → isOne (vs[j]?.getD 0) = true)) (fun i => vs.length - (intOf i).toNat)
      case atStart => exact ⟨0, by omega, by omega, rfl, fun j hj => by omega⟩
      case round =>
        obtain ⟨k, hk3, hk, rfl, H⟩ := hrel
        by_cases h3 : k = 3
        · subst h3
          have HE := Lib.hid (ones_stop vs 3 (by omega) hk H.out (.inl rfl))
          rcases Nat.lt_or_ge 3 vs.length with hg | hg
          · go_wp2
            go_ret
            exact ⟨by rw [HE.out]; rfl, HB.out⟩
          · go_wp2
            go_ret
            exact ⟨by rw [HE.out]; rfl, HB.out⟩
        · by_cases hlt : k < vs.length
          · obtain ⟨v, hcx, HV⟩ := named_below hc hlt HB.out
            have h3' : k < 3 := by omega
            by_cases o1 : v = 1
            · have e1 : (v == 1) = true := by simp [o1]
              have HN := Lib.hid (show ∀ j, j < k + 1 → isOne (vs[j]?.getD 0) = true from fun j hj => by
                by_cases e : j = k
                · subst e; rw [HV.out, o1]; rfl
                · exact H.out j (by omega))
              clear o1
              go_wp2
              go_round
              case rel => exact ⟨k + 1, by omega, by omega, by go_num, HN⟩
              case measure => simp [intOf]; omega
            · by_cases o2 : v = -1
              · have e1 : (v == 1) = false := by simp [o2]
                have e2 : (v == -1) = true := by simp [o2]
                have HN := Lib.hid (show ∀ j, j < k + 1 → isOne (vs[j]?.getD 0) = true from fun j hj => by
                  by_cases e : j = k
                  · subst e; rw [HV.out, o2]; rfl
                  · exact H.out j (by omega))
                clear o1 o2
                go_wp2
                go_round
                case rel => exact ⟨k + 1, by omega, by omega, by go_num, HN⟩
                case measure => simp [intOf]; omega
              · have e1 : (v == 1) = false := by simp [o1]
                have e2 : (v == -1) = false := by simp [o2]
                have HE := Lib.hid (ones_stop vs k hk3 hk H.out (.inr (.inr (by rw [HV.out]; simp [isOne, o1, o2]))))
                clear o1 o2
                go_wp2
                go_ret
                exact ⟨by rw [HE.out]; rfl, HB.out⟩
          · obtain rfl : k = vs.length := by omega
            have HE := Lib.hid (ones_stop vs vs.length hk3 hk H.out (.inr (.inl rfl)))
            go_wp2
            go_ret
            exact ⟨by rw [HE.out]; rfl, HB.out⟩
end Go.Proofs.Ytcaglhodkdfncaa
