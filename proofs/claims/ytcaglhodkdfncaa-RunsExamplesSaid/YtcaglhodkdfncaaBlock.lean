/- runs.Block returns the block of a size with levels and runs, or that there is none. -/
import Derived.Test.YtcaglhodkdfncaaRow
import Derived.Test.YtcaglhodkdfncaaFill
import Derived.WalkLawsBesides
import Derived.WalkMore
import Derived.ScopeJumps
import Derived.Deep.QuietTactic
import Derived.BigQuiet
namespace Go.Proofs.Ytcaglhodkdfncaa
open Go.RowKit

theorem make_any (n : Nat) (h : n = 4 ∨ n = 15 ∨ n = 16) : ∀ w : World, (Instr.makeSlice 22 (.int .i64 (n : Int)) (.int .i64 (n : Int))).run Try.prog w = .ok (.slice (some ⟨w.heap.size, 0, none⟩) n n) (w.alloc (.cells (((List.replicate n (0 : Int)).map (Value.int .i64)).toArray) 3)) := by
  rcases h with rfl | rfl | rfl <;> intro w <;> kernel_rfl

def BlkP (n : Nat) (vs : List Int) (z : Int) (bs : List Int) (w : World) (e : Ending) (w' : World) : Prop :=
  ∃ (v : Value) (er : Int), e = .returned (.tuple #[v, .int .i64 er]) ∧ ((Poss n vs z bs ∧ er = 0 ∧ w'.ownsRow w.heap.size 3 1 v n ((blk n vs z bs).map (Value.int .i64))) ∨ (¬ Poss n vs z bs ∧ er = 4 ∧ v = .slice none 0 0)) ∧ Below w.heap.size w w'

/-- What is known when k levels have been put and the next place is t. -/
structure BlkI (n m : Nat) (vs : List Int) (z : Int) (bs : List Int) (k : Nat) (t : Int) (zs : List Int) : Prop where
  eq : t = (m : Int) + z - k - (bs.take k).sum
  bd : -17 ≤ t ∧ t < n
  len : zs.length = n
  fil : -1 ≤ t → zs = Fil n vs z bs k
  ne : ∀ j, j < k → vs[j]?.getD 0 ≠ 0
  nn : ∀ j, j < k → 0 ≤ bs[j]?.getD 0

theorem blkI_zero {n m : Nat} {vs : List Int} {z : Int} {bs : List Int} (hvl : vs.length = m + 1) (hz0 : 0 ≤ z) (hz1 : z + m + 1 ≤ (n : Int)) : BlkI n m vs z bs 0 ((m : Int) + z) (List.replicate n 0) :=
  ⟨by simp, by omega, by simp, fun _ => (fil_zero hz0 (by omega)).symm, fun j h => by omega, fun j h => by omega⟩

theorem blkI_neg {n m : Nat} {vs : List Int} {z : Int} {bs : List Int} {k : Nat} {t : Int} {zs : List Int} (h : BlkI n m vs z bs k t zs) (hvl : vs.length = m + 1) (hbl : bs.length = m) (hk : k ≤ m) (ht : t < 0) : ¬ Poss n vs z bs := by
  intro hp
  have h1 := poss_at hp k (by omega)
  have h2 := h.eq
  omega

/-- The last level has been put. -/
theorem blkI_done {n m : Nat} {vs : List Int} {z : Int} {bs : List Int} {p : Nat} {zs : List Int} (h : BlkI n m vs z bs m (p : Int) zs) (hvl : vs.length = m + 1) (hbl : bs.length = m) (hz0 : 0 ≤ z) (hz1 : z + m + 1 ≤ (n : Int)) {v : Int} (hv : vs[m]?.getD 0 = v) (hv0 : v ≠ 0) :
    Poss n vs z bs ∧ zs.set p v = blk n vs z bs := by
  have heq := h.eq
  have ht : bs.take m = bs := List.take_of_length_le (by omega)
  rw [ht] at heq
  have hnn : ∀ b ∈ bs, 0 ≤ b := all_of_get (fun j hj => h.nn j (by omega))
  refine ⟨⟨by omega, by omega, hz0, by omega, fun e => by rw [e] at hvl; simp at hvl, hnn, by omega, all_of_get (fun j hj => ?_)⟩, ?_⟩
  · by_cases e : j = m
    · rw [e, hv]; exact hv0
    · exact h.ne j (by omega)
  · have hb : bs[m]?.getD 0 = 0 := by rw [List.getElem?_eq_none (by omega)]; rfl
    have hs := fil_step (size := n) (vs := vs) (z := z) (bs := bs) (i := m) (by omega) (by omega) hv hb (by omega) (by rw [ht]; omega)
    rw [ht, show ((vs.length : Int) + z - 1 - m - bs.sum).toNat = p from by omega] at hs
    rw [h.fil (by omega), hs]
    have := fil_last (size := n) (vs := vs) (z := z) (bs := bs) (by omega)
    rwa [hvl] at this

/-- One level has been put, and the run before it passed. -/
theorem blkI_next {n m : Nat} {vs : List Int} {z : Int} {bs : List Int} {k p : Nat} {zs : List Int} (h : BlkI n m vs z bs k (p : Int) zs) (hvl : vs.length = m + 1) (hbl : bs.length = m) (hk : k < m) (hz1 : z + m + 1 ≤ (n : Int)) (hn : n ≤ 16) {v b : Int} (hv : vs[k]?.getD 0 = v) (hv0 : v ≠ 0)
    (hb : bs[k]?.getD 0 = b) (hb0 : 0 ≤ b) (hb1 : b ≤ z) : BlkI n m vs z bs (k + 1) ((p : Int) - 1 - b) (zs.set p v) := by
  have heq := h.eq
  have hbd := h.bd
  refine ⟨?_, by omega, by rw [List.length_set]; exact h.len, fun ht => ?_, fun j hj => ?_, fun j hj => ?_⟩
  · rw [sum_take_succ bs k (by omega), hb]; omega
  · have hs := fil_step (size := n) (vs := vs) (z := z) (bs := bs) (i := k) (by omega) (by omega) hv hb hb0 (by omega)
    rw [show ((vs.length : Int) + z - 1 - k - (bs.take k).sum).toNat = p from by omega] at hs
    rw [h.fil (by omega), hs]
  · by_cases e : j = k
    · rw [e, hv]; exact hv0
    · exact h.ne j (by omega)
  · by_cases e : j = k
    · rw [e, hb]; exact hb0
    · exact h.nn j (by omega)

set_option maxRecDepth 100000 in
set_option maxHeartbeats 4000000 in
theorem block_loop (n m : Nat) (hn : n = 4 ∨ n = 15 ∨ n = 16) (sL sB : Value) (z : Int) (vs bs : List Int) (w : World) (h1 : Ints w sL vs) (h2 : Ints w sB bs) (hf : Fits vs)
    (hvl : vs.length = m + 1) (hbl : bs.length = m) (hle : m + 1 ≤ n) (hz0 : 0 ≤ z) (hz1 : z + m + 1 ≤ (n : Int)) :
    Calls Try.prog 18 #[.int .i64 (n : Int), .agg #[sL, .int .i64 z, sB]] w (BlkP n vs z bs w) := by
  have hmk := make_any n hn
  have hn16 : n ≤ 16 := by omega
  obtain ⟨a1, c1, rfl⟩ := h1.form
  obtain ⟨a2, c2, rfl⟩ := h2.form
  have hb0 : Below w.heap.size w (w.alloc (.cells #[.slice a1 vs.length c1, .int .i64 z, .slice a2 bs.length c2] 25)) := (Below.refl _ w).alloc (Nat.le_refl _) _
  have H1 := Lib.hid (h1.below hb0)
  have G1 := Lib.hid h1
  have G2 := Lib.hid h2
  rw [hvl] at G1
  rw [hbl] at G2
  rw [hvl, hbl] at hb0 H1 ⊢
  have HN := Lib.hid hn
  have HB0 := Lib.hid hb0
  have HVL := Lib.hid hvl
  have HBL := Lib.hid hbl
  have e0 : ((m : Int) + 1 == 0) = false := by simp; omega
  have hmx : (if 0 < m then (m : Int) else 0) = m := by split <;> omega
  have d1 : decide ((n : Int) < (m : Int) + 1) = false := by simp; omega
  have d2 : decide (z < 0) = false := by simp; omega
  have d3 : decide ((n : Int) - (m + 1) < z) = false := by simp; omega
  clear h1 h2 hn hb0 hbl hvl
  go_enter Try.func18, Try.ntmps18
  go_wp2_with (fail)
  refine wp_scope_jumps 0 (fun a' w' => a'.defers = [] ∧ a'.tmps.size = 113 ∧ Hid (¬ Poss n vs z bs ∧ Below w.heap.size w w')) (fun _ _ => 0) rfl ?_ ?_
  rotate_left
  · rintro ⟨tm, df⟩ w' ⟨rfl, hsz, hh⟩
    go_wp2
    simp only [Exit.jump]
    refine bodyPost_ret (v := .tuple #[.slice none 0 0, .int .i64 4]) (by have hs : tm.size = 113 := hsz; simp [results, Try.f18, go_sem, hs]) rfl ?_
    exact ⟨_, 4, rfl, .inr ⟨hh.1, rfl, rfl⟩, hh.2⟩
  go_wp2_with (first
    | (go_at_call 22; refine (sized_yes 22 (.inl rfl) _ _ (by have := HN.out; omega)).mono ?_; rintro e w' ⟨rfl, rfl⟩)
    | (go_at_call 23; refine (ranged_yes _ vs _ H1.out hf).mono ?_; rintro e w' ⟨rfl, rfl⟩))
  clear hmx d1 d2 d3 e0
  go_loopw [8, 68] (fun at' i wr => ∃ (k : Nat) (t : Int) (zs : List Int), k ≤ m ∧ i = .int .i64 k ∧ at' = .int .i64 t ∧ BlkI n m vs z bs k t zs ∧
      Box wr (w.heap.size + 1) 3 (zs.map (Value.int .i64)).toArray ∧ Below (w.heap.size + 1) (w.alloc (.cells #[.slice a1 (m + 1) c1, .int .i64 z, .slice a2 m c2] 25)) wr) (fun _ i _ => m + 1 - (intOf i).toNat)
  case atStart =>
    have hb := Box.new (w.alloc (.cells #[.slice a1 (m + 1) c1, .int .i64 z, .slice a2 m c2] 25)) 3 ((List.replicate n (0 : Int)).map (Value.int .i64)).toArray
    rw [World.size_alloc] at hb
    refine ⟨0, (m : Int) + z, List.replicate n 0, Nat.zero_le _, rfl, by go_num, blkI_zero HVL.out hz0 hz1, by simpa using hb, by simpa using (Below.refl _ (w.alloc (.cells #[.slice a1 (m + 1) c1, .int .i64 z, .slice a2 m c2] 25))).alloc (Nat.le_refl _) _⟩
  case round =>
    obtain ⟨k, t, zs, hk, rfl, rfl, hI, hbx, hB⟩ := hrel
    have hBW := HB0.out.trans (hB.mono (by omega))
    obtain ⟨b1, o1, v, rfl, hcv0, HV⟩ := G1.out.at_ (k := k) (by have := HVL.out; omega)
    have hb1 : b1 < w.heap.size := World.block_lt_of_cell? _ _ hcv0
    have hcv := (hBW.cell (p := ⟨b1, o1 + k, none⟩) hb1).trans hcv0
    have hX : Box wr w.heap.size 25 #[.slice (some ⟨b1, o1, none⟩) (m + 1) c1, .int .i64 z, .slice a2 m c2] := (Box.new w 25 _).below hB (by omega)
    have x1 : wr.cell? ⟨w.heap.size, 1, none⟩ = some (.int .i64 z) := by simpa using hX.cell 1
    have x2 : wr.cell? ⟨w.heap.size, 2, none⟩ = some (.slice a2 m c2) := by simpa using hX.cell 2
    have HBW := Lib.hid hBW
    have HBX := Lib.hid hbx
    have HI := Lib.hid hI
    have HBR := Lib.hid hB
    obtain ⟨t1, t2⟩ := hI.bd
    have hzl := hI.len
    clear hX hI hBW hcv0 hB
    by_cases ht : t < 0
    · have HNP := Lib.hid (blkI_neg HI.out HVL.out HBL.out hk ht)
      clear hbx hzl
      go_wp2
      go_step3
      simp only [Exit.then, Exit.inBlock, Exit.jump]
      exact ⟨rfl, rfl, rfl, HNP.out, HBW.out⟩
    · by_cases hv : v = 0
      · have HNP := Lib.hid (show ¬ Poss n vs z bs from fun h => poss_v h k (by have := HVL.out; omega) (HV.out.trans hv))
        have e1 : (v == 0) = true := by simp [hv]
        clear hv hbx hzl
        go_wp2
        go_step3
        simp only [Exit.then, Exit.inBlock, Exit.jump]
        exact ⟨rfl, rfl, rfl, HNP.out, HBW.out⟩
      · obtain ⟨p, rfl⟩ : ∃ p : Nat, t = (p : Int) := ⟨t.toNat, by omega⟩
        have e1 : (v == 0) = false := by simp [hv]
        obtain ⟨y, hy⟩ : ∃ y, wr.cell? ⟨w.heap.size + 1, p, none⟩ = some (.int .i64 y) := ⟨zs[p]'(by omega), by rw [hbx.cell p]; simp⟩
        have hyf := hbx.frozen p
        have HS := Lib.hid (show Box (wr.setCell ⟨w.heap.size + 1, p, none⟩ (.int .i64 v)) (w.heap.size + 1) 3 ((zs.set p v).map (Value.int .i64)).toArray from by rw [← toArray_set]; exact hbx.set p _)
        have HB2 := Lib.hid (HBR.out.setCell (p := ⟨w.heap.size + 1, p, none⟩) (by simp) (.int .i64 v))
        have HV0 := Lib.hid hv
        have HZL := Lib.hid hzl
        clear hbx hzl hv
        by_cases hkm : k = m
        · subst hkm
          have HD := Lib.hid (blkI_done HI.out HVL.out HBL.out hz0 hz1 HV.out HV0.out)
          go_wp2
          simp only [Exit.jump]
          go_ret2
          obtain ⟨hp, hset⟩ := HD.out
          have hbx := HS.out
          rw [hset] at hbx
          have hbl : (blk n vs z bs).length = n := (of_blk hp).1
          have ho := own_of_box (cap := n) (base := w.heap.size) hbx (by omega) hbl.symm (by omega)
          rw [hbl] at ho
          exact ⟨_, 0, rfl, .inl ⟨hp, rfl, ho⟩, HBW.out.setCell (by simp) _⟩
        · have hkm' : k < m := by omega
          have e2 : ((k : Int) + 1 == (m : Int) + 1) = false := by simp; omega
          obtain ⟨b2, o2, b, rfl, hbv0, HBV⟩ := G2.out.at_ (k := k) (by have := HBL.out; omega)
          have hb2 : b2 < w.heap.size := World.block_lt_of_cell? _ _ hbv0
          have hbv := (HBW.out.cell (p := ⟨b2, o2 + k, none⟩) hb2).trans hbv0
          clear hbv0
          have HBN := Lib.hid (HBW.out.setCell (p := ⟨w.heap.size + 1, p, none⟩) (by simp) (.int .i64 v))
          have k0 : (0 : Int) ≤ (k : Int) := by omega
          have k1 : (k : Int) < (m : Int) := by omega
          by_cases hb0 : b < 0
          · have HNP := Lib.hid (show ¬ Poss n vs z bs from fun h => absurd (poss_b h k (by have := HBL.out; omega)).1 (by rw [HBV.out]; omega))
            go_wp2
            go_quiet (fail)
            go_wp2
            go_step3
            simp only [Exit.then, Exit.inBlock, Exit.jump]
            exact ⟨rfl, rfl, rfl, HNP.out, HBN.out.drewN _⟩
          · by_cases hb1' : z < b
            · have HNP := Lib.hid (show ¬ Poss n vs z bs from fun h => absurd (poss_b h k (by have := HBL.out; omega)).2 (by rw [HBV.out]; omega))
              have d4 : decide (b < 0) = false := by simp; omega
              go_wp2
              go_quiet (fail)
              go_wp2
              go_step3
              simp only [Exit.then, Exit.inBlock, Exit.jump]
              exact ⟨rfl, rfl, rfl, HNP.out, HBN.out.drewN _⟩
            · have HNX := Lib.hid (blkI_next HI.out HVL.out HBL.out hkm' hz1 hn16 HV.out HV0.out HBV.out (by omega) (by omega))
              have d4 : decide (b < 0) = false := by simp; omega
              have hbz : b ≤ 16 := by omega
              go_wp2
              go_quiet (fail)
              go_wp2
              go_roundw
              case rel => exact ⟨k + 1, (p : Int) - 1 - b, zs.set p v, by omega, by go_num, rfl, HNX.out, HS.out, HB2.out.drewN _⟩
              case measure => simp [intOf]; omega
end Go.Proofs.Ytcaglhodkdfncaa
