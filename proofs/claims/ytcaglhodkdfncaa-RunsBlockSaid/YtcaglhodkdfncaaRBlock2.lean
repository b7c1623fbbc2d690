/- The reference's Block. -/
import Derived.Test.YtcaglhodkdfncaaRBlock
namespace Go.Proofs.Ytcaglhodkdfncaa
open Go.RowKit
set_option linter.unusedSimpArgs false
set_option linter.unusedVariables false

set_option maxHeartbeats 2000000 in
theorem rblock_size (size : Int) (h4 : ¬ size = 4) (h15 : ¬ size = 15) (h16 : ¬ size = 16) (a1 a2 : Option Addr) (N M c1 c2 : Nat) (z : Int) (w : World) :
    Calls Try.prog 19 #[.int .i64 size, .agg #[.slice a1 N c1, .int .i64 z, .slice a2 M c2]] w fun e w' => e = .returned (.tuple #[.slice none 0 0, .int .i64 2]) ∧ Below w.heap.size w w' := by
  have H4 := Lib.hid h4
  have H15 := Lib.hid h15
  have H16 := Lib.hid h16
  clear h4 h15 h16
  go_enter Try.func19, Try.ntmps19
  go_wp2_with (go_at_call 25; refine (sized_no 25 (.inr rfl) _ _ H4.out H15.out H16.out).mono ?_; rintro e w' ⟨rfl, rfl⟩)
  go_ret2
  exact ⟨rfl, (Below.refl _ w).alloc (Nat.le_refl _) _⟩

set_option maxHeartbeats 2000000 in
theorem rblock_range (size : Int) (hs : size = 4 ∨ size = 15 ∨ size = 16) (a1 a2 : Option Addr) (N M c1 c2 : Nat) (z : Int) (vs : List Int) (w : World) (h1 : Ints w (.slice a1 N c1) vs) (hf : ¬ Fits vs) :
    Calls Try.prog 19 #[.int .i64 size, .agg #[.slice a1 N c1, .int .i64 z, .slice a2 M c2]] w fun e w' => e = .returned (.tuple #[.slice none 0 0, .int .i64 3]) ∧ Below w.heap.size w w' := by
  have HS := Lib.hid hs
  have H1 := Lib.hid (h1.below ((Below.refl _ w).alloc (Nat.le_refl _) (.cells #[.slice a1 N c1, .int .i64 z, .slice a2 M c2] 25)))
  clear hs h1
  go_enter Try.func19, Try.ntmps19
  go_wp2_with (first
    | (go_at_call 25; refine (sized_yes 25 (.inr rfl) _ _ HS.out).mono ?_; rintro e w' ⟨rfl, rfl⟩)
    | (go_at_call 26; refine (rranged_no _ vs _ H1.out hf).mono ?_; rintro e w' ⟨rfl, rfl⟩))
  go_ret2
  exact ⟨rfl, (Below.refl _ w).alloc (Nat.le_refl _) _⟩

set_option maxHeartbeats 2000000 in
theorem rblock_bad (n : Nat) (hn : n = 4 ∨ n = 15 ∨ n = 16) (a1 a2 : Option Addr) (c1 c2 : Nat) (z : Int) (vs bs : List Int) (w : World) (h1 : Ints w (.slice a1 vs.length c1) vs) (h2 : Ints w (.slice a2 bs.length c2) bs) (hf : Fits vs)
    (hz0 : -9223372036854775808 ≤ z) (hz1 : z ≤ 9223372036854775807) (hp : ¬ Poss n vs z bs) :
    Calls Try.prog 19 #[.int .i64 (n : Int), .agg #[.slice a1 vs.length c1, .int .i64 z, .slice a2 bs.length c2]] w fun e w' => e = .returned (.tuple #[.slice none 0 0, .int .i64 4]) ∧ Below w.heap.size w w' := by
  have hb0 : Below w.heap.size w (w.alloc (.cells #[.slice a1 vs.length c1, .int .i64 z, .slice a2 bs.length c2] 25)) := (Below.refl _ w).alloc (Nat.le_refl _) _
  have H1 := Lib.hid (h1.below hb0)
  have H2 := Lib.hid (h2.below hb0)
  have HS := Lib.hid hn
  have HB0 := Lib.hid hb0
  have HPN := Lib.hid hp
  have hn16 : n ≤ 16 := by omega
  clear h1 h2 hn hb0 hp
  go_enter Try.func19, Try.ntmps19
  go_wp2_with (first
    | (go_at_call 25; refine (sized_yes 25 (.inr rfl) _ _ (by have := HS.out; omega)).mono ?_; rintro e w' ⟨rfl, rfl⟩)
    | (go_at_call 26; refine (rranged_yes _ vs _ H1.out hf).mono ?_; rintro e w' ⟨rfl, rfl⟩)
    | (go_at_call 27; refine (poss_any n hn16 _ _ z vs bs _ H1.out H2.out hz0 hz1).mono ?_; rintro e w' ⟨r, rfl, hr, b2⟩; have er : r = false := (by cases r with | false => rfl | true => exact absurd (hr.1 rfl) HPN.out); subst er; clear hr; have B2 := Lib.hid (HB0.out.trans (b2.mono (by simp))); clear b2))
  go_ret2
  exact ⟨rfl, B2.out⟩

set_option maxRecDepth 100000 in
set_option maxHeartbeats 4000000 in
theorem rblock_yes (n N M : Nat) (hn : n = 4 ∨ n = 15 ∨ n = 16) (a1 a2 : Option Addr) (c1 c2 : Nat) (z : Int) (vs bs : List Int) (w : World) (h1 : Ints w (.slice a1 N c1) vs) (h2 : Ints w (.slice a2 M c2) bs) (hf : Fits vs)
    (hN : vs.length = N) (hM : bs.length = M) (hp : Poss n vs z bs) :
    Calls Try.prog 19 #[.int .i64 (n : Int), .agg #[.slice a1 N c1, .int .i64 z, .slice a2 M c2]] w fun e w' => ∃ v, e = .returned (.tuple #[v, .int .i64 0]) ∧ w'.ownsRow w.heap.size 3 1 v n ((blk n vs z bs).map (Value.int .i64)) ∧ Below w.heap.size w w' := by
  have hb0 : Below w.heap.size w (w.alloc (.cells #[.slice a1 N c1, .int .i64 z, .slice a2 M c2] 25)) := (Below.refl _ w).alloc (Nat.le_refl _) _
  have H1 := Lib.hid (h1.below hb0)
  have H2 := Lib.hid (h2.below hb0)
  have HS := Lib.hid hn
  have HB0 := Lib.hid hb0
  have HP := Lib.hid hp
  have hn16 : n ≤ 16 := by omega
  have hz0 := hp.z0
  have hz1 := hp.z1
  have hle := hp.len
  have hbf := hp.bef
  have hmk := make_any n hn
  rw [hN] at hz1 hle
  have HMN := Lib.hid (show M = N - 1 from by omega)
  have HVL := Lib.hid hN
  have HBL := Lib.hid hM
  have X0 := Lib.hid (Box.new w 25 #[.slice a1 N c1, .int .i64 z, .slice a2 M c2])
  clear h1 h2 hn hb0 hp hbf hN hM
  go_enter Try.func19, Try.ntmps19
  go_wp2_with (first
    | (go_at_call 25; refine (sized_yes 25 (.inr rfl) _ _ (by have := HS.out; omega)).mono ?_; rintro e w' ⟨rfl, rfl⟩)
    | (go_at_call 26; refine (rranged_yes _ vs _ H1.out hf).mono ?_; rintro e w' ⟨rfl, rfl⟩))
  go_wp2_with (fail)
  refine (poss_any n hn16 _ _ z vs bs _ H1.out H2.out (by omega) (by omega)).mono ?_
  rintro e w2 ⟨r, rfl, hr, b2⟩
  have er : r = true := hr.2 HP.out
  subst er
  clear hr
  have X2 := X0.out.below b2 (by simp)
  have x0 : w2.cell? ⟨w.heap.size, 0, none⟩ = some (.slice a1 N c1) := (by simpa using X2.cell 0)
  have x1 : w2.cell? ⟨w.heap.size, 1, none⟩ = some (.int .i64 z) := (by simpa using X2.cell 1)
  have XX := Lib.hid X2
  have sx := X2.lt
  have B2 := Lib.hid b2
  clear b2 X2
  go_wp2_with (fail)
  have HBT := Lib.hid (fun i => sum_take bs HP.out.nn i)
  have G1 := Lib.hid (H1.out.below B2.out)
  have G2 := Lib.hid (H2.out.below B2.out)
  have B2' := Lib.hid (HB0.out.trans (B2.out.mono (by simp)))
  go_loopw [7, 8] (fun at' i wr => ∃ k : Nat, k ≤ N ∧ i = .int .i64 k ∧ at' = .int .i64 ((N : Int) + z - 1 - ((if k ≤ M then k else M : Nat) : Int) - (bs.take k).sum) ∧
      Box wr w2.heap.size 3 ((Fil n vs z bs k).map (Value.int .i64)).toArray ∧ Below w2.heap.size w2 wr) (fun _ i _ => N - (intOf i).toNat)
  case atStart =>
    refine ⟨0, Nat.zero_le _, rfl, by simp; omega, ?_, (Below.refl _ _).alloc (Nat.le_refl _) _⟩
    rw [fil_zero hz0 (by rw [HVL.out]; omega)]
    have hbn := Box.new w2 3 ((List.replicate n (0 : Int)).map (Value.int .i64)).toArray
    simpa using hbn
  case round =>
    obtain ⟨k, hk, rfl, rfl, hbx, hB⟩ := hrel
    have X3 := XX.out.below hB sx
    have y0 : wr.cell? ⟨w.heap.size, 0, none⟩ = some (.slice a1 N c1) := by simpa using X3.cell 0
    have y2 : wr.cell? ⟨w.heap.size, 2, none⟩ = some (.slice a2 M c2) := by simpa using X3.cell 2
    have BB := Lib.hid hB
    clear hB X3 x0 x1
    by_cases hlt : k < N
    · obtain ⟨b1, o1, v, rfl, hcv, HV⟩ := (G1.out.below BB.out).at_ (k := k) (by rw [HVL.out]; exact hlt)
      obtain ⟨q1, q2⟩ := poss_at HP.out k (by rw [HVL.out]; exact hlt)
      have hst := HBT.out k
      have hsum := HP.out.sum
      have hkM : k ≤ M := by have := HMN.out; omega
      rw [if_pos hkM]
      have hlen := fil_length HP.out k (by rw [HVL.out]; omega)
      obtain ⟨p, hpp⟩ : ∃ p : Nat, (N : Int) + z - 1 - (k : Int) - (bs.take k).sum = (p : Int) := ⟨((N : Int) + z - 1 - (k : Int) - (bs.take k).sum).toNat, by have := HVL.out; omega⟩
      have hpn : p < n := by omega
      obtain ⟨y, hy⟩ : ∃ y, wr.cell? ⟨w2.heap.size, p, none⟩ = some (.int .i64 y) := ⟨(Fil n vs z bs k)[p]'(by omega), by rw [hbx.cell p]; simp⟩
      have hyf := hbx.frozen p
      obtain ⟨b, HBV⟩ : ∃ b, Hid (bs[k]?.getD 0 = b) := ⟨_, rfl⟩
      rw [HBV.out] at q1 q2
      have hstep := fil_step (size := n) (vs := vs) (z := z) (bs := bs) (i := k) (by rw [HVL.out]; exact hlt) (by rw [HBL.out, HVL.out]; exact HMN.out) HV.out HBV.out q2 q1
      rw [show ((vs.length : Int) + z - 1 - (k : Int) - (bs.take k).sum).toNat = p from by have := HVL.out; omega] at hstep
      have HSB := Lib.hid (show Box (wr.setCell ⟨w2.heap.size, p, none⟩ (.int .i64 v)) w2.heap.size 3 ((Fil n vs z bs (k + 1)).map (Value.int .i64)).toArray from by rw [← hstep, ← toArray_set]; exact hbx.set p _)
      have HB2 := Lib.hid (BB.out.setCell (p := ⟨w2.heap.size, p, none⟩) (Nat.le_refl _) (.int .i64 v))
      have HPP := Lib.hid hpp
      rw [hpp]
      have hb16 : b ≤ 16 := by have := HVL.out; omega
      clear hpp hstep hlen hbx
      by_cases hkm : k < M
      · obtain ⟨b2, o2, b', rfl, hcb0, HBV'⟩ := G2.out.at_ (k := k) (by rw [HBL.out]; exact hkm)
        have hb2 : b2 < w2.heap.size := World.block_lt_of_cell? _ _ hcb0
        have hcb := (BB.out.cell (p := ⟨b2, o2 + k, none⟩) hb2).trans hcb0
        clear hcb0
        obtain rfl : b = b' := HBV.out.symm.trans HBV'.out
        have HSU := Lib.hid (show (bs.take (k + 1)).sum = (bs.take k).sum + b from by rw [sum_take_succ bs k (by rw [HBL.out]; exact hkm), HBV.out])
        have k0 : (0 : Int) ≤ (k : Int) := by omega
        have k1 : (k : Int) < (M : Int) := by omega
        have k2 : (k : Int) < (N : Int) := by omega
        have p0 : (0 : Int) ≤ (p : Int) := by omega
        have p1 : (p : Int) < (n : Int) := by omega
        have hz16 : z ≤ 16 := by omega
        generalize (bs.take k).sum = s at *
        go_wp2_with (fail)
        go_roundw
        case rel => exact ⟨k + 1, by omega, by go_num, by rw [if_pos (by omega), HSU.out]; have := HPP.out; go_num, HSB.out, HB2.out⟩
        case measure => simp [intOf]; omega
      · have hkM' : k = M := by omega
        have HTK := Lib.hid (show bs.take (k + 1) = bs.take k from by rw [List.take_of_length_le (by rw [HBL.out]; omega), List.take_of_length_le (by rw [HBL.out]; omega)])
        have k0 : (0 : Int) ≤ (k : Int) := by omega
        have k2 : (k : Int) < (N : Int) := by omega
        have p0 : (0 : Int) ≤ (p : Int) := by omega
        have p1 : (p : Int) < (n : Int) := by omega
        have hnlt : ¬ (k : Int) < (M : Int) := by omega
        have HKM := Lib.hid hkM'
        clear hkM'
        go_wp2_with (fail)
        go_roundw
        case rel => exact ⟨k + 1, by omega, by go_num, by rw [if_neg (by have := HKM.out; omega), HTK.out, ← HKM.out, HPP.out], HSB.out, HB2.out⟩
        case measure => simp [intOf]; omega
    · obtain rfl : k = N := by omega
      have ho := hbx
      have e := fil_last (size := n) (vs := vs) (z := z) (bs := bs) (by rw [HBL.out, HVL.out]; exact HMN.out)
      rw [HVL.out] at e
      rw [e] at ho
      have hbl := (of_blk HP.out).1
      have HO := Lib.hid (own_of_box (cap := n) (base := w.heap.size) ho (by have := B2'.out.size; omega) hbl.symm (by omega))
      rw [hbl] at HO
      have HBF := Lib.hid (B2'.out.trans (BB.out.mono B2'.out.size))
      clear ho e hbl hbx
      generalize ((k : Int) + z - 1 - ((if k ≤ M then k else M : Nat) : Int) - (bs.take k).sum) = t
      go_wp2_with (fail)
      go_ret2
      exact ⟨_, rfl, HO.out, HBF.out⟩

open Classical in
theorem rblock_any (size : Int) (sL sB : Value) (z : Int) (vs bs : List Int) (w : World) (h1 : Ints w sL vs) (h2 : Ints w sB bs) (hz0 : -9223372036854775808 ≤ z) (hz1 : z ≤ 9223372036854775807) :
    Calls Try.prog 19 #[.int .i64 size, .agg #[sL, .int .i64 z, sB]] w fun e w' => ∃ v, e = .returned (.tuple #[v, .int .i64 (blkSpec size vs z bs).2]) ∧ w'.ownsRow w.heap.size 3 1 v (blkSpec size vs z bs).1.length ((blkSpec size vs z bs).1.map (Value.int .i64)) ∧ Below w.heap.size w w' := by
  obtain ⟨a1, c1, rfl⟩ := h1.form
  obtain ⟨a2, c2, rfl⟩ := h2.form
  unfold blkSpec
  by_cases hs : size = 4 ∨ size = 15 ∨ size = 16
  · rw [if_pos hs]
    by_cases hf : Fits vs
    · rw [if_pos hf]
      obtain ⟨n, rfl⟩ : ∃ n : Nat, size = (n : Int) := ⟨size.toNat, by omega⟩
      have hn : n = 4 ∨ n = 15 ∨ n = 16 := by omega
      rw [Int.toNat_natCast]
      by_cases hp : Poss n vs z bs
      · rw [if_pos hp]
        refine (rblock_yes n vs.length bs.length hn a1 a2 c1 c2 z vs bs w h1 h2 hf rfl rfl hp).mono fun e w' ⟨v, he, ho, hb⟩ => ⟨v, he, ?_, hb⟩
        simp only
        rw [(of_blk hp).1]
        exact ho
      · rw [if_neg hp]
        exact (rblock_bad n hn a1 a2 c1 c2 z vs bs w h1 h2 hf hz0 hz1 hp).mono fun e w' ⟨he, hb⟩ => ⟨_, he, own_nil_of, hb⟩
    · rw [if_neg hf]
      exact (rblock_range size hs a1 a2 vs.length bs.length c1 c2 z vs w h1 hf).mono fun e w' ⟨he, hb⟩ => ⟨_, he, own_nil_of, hb⟩
  · rw [if_neg hs]
    exact (rblock_size size (by omega) (by omega) (by omega) a1 a2 vs.length bs.length c1 c2 z w).mono fun e w' ⟨he, hb⟩ => ⟨_, he, own_nil_of, hb⟩

end Go.Proofs.Ytcaglhodkdfncaa
