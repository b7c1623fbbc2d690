/- spindleref17.Of returns the levels and runs of a block. -/
import Derived.Test.YtcaglhodkdfncaaXs
import Derived.Deep.RegionHeld3
import Derived.Deep.AppendLies
import Derived.StillTailTactics
import Derived.Deep.RegionLaw
import Derived.BigRegion
namespace Go.Proofs.Ytcaglhodkdfncaa
open Go.RowKit

/-- What the reference's Of holds: the result, x. -/
structure Cmp (H : Nat) (W : World) (sL sB : Value) (vs bs : List Int) (z : Int) : Prop where
  x : Box W (H + 1) 25 #[sL, .int .i64 z, sB]
  r : Box W H 25 #[.slice none 0 0, .int .i64 0, .slice none 0 0]
  oL : W.ownsRow (H + 1 + 1) 3 1 sL vs.length (vs.map (Value.int .i64))
  oB : W.ownsRow (H + 1 + 1) 3 1 sB bs.length (bs.map (Value.int .i64))
  ap : Apart sL sB
  sz : H + 1 < W.heap.size

theorem Cmp.setZ {H : Nat} {W : World} {sL sB : Value} {vs bs : List Int} {z : Int} (c : Cmp H W sL sB vs bs z) (z2 : Int) : Cmp H (W.setCell ⟨H + 1, 1, none⟩ (.int .i64 z2)) sL sB vs bs z2 := by
  refine ⟨by simpa using c.x.set 1 (.int .i64 z2), c.r.far (by simp <;> omega) _, ownsRow_setCell_below c.oL (by simp <;> omega) _, ownsRow_setCell_below c.oB (by simp <;> omega) _, c.ap, ?_⟩
  have := c.sz
  simp [World.setCell]; omega

theorem Cmp.drew {H : Nat} {W : World} {sL sB : Value} {vs bs : List Int} {z : Int} (c : Cmp H W sL sB vs bs z) : Cmp H W.drew sL sB vs bs z := ⟨c.x, c.r, c.oL, c.oB, c.ap, c.sz⟩

theorem grown_drew {W w1 : World} {row : Option Nat} (h : W.drew.grownBy w1 row) : W.grownBy w1 row := ⟨h.os, h.tape, h.output, h.size, h.block⟩

theorem lies_at {W : World} {v : Value} {g n cap : Nat} {tmp : Obj} (h : v.ownBlock = some g ∨ g = W.heap.size + 1) :
    (Value.slice (some ⟨g, 0, none⟩) n cap).ownBlock = v.ownBlock ∨ (Value.slice (some ⟨g, 0, none⟩) n cap).ownBlock = some (W.alloc tmp).heap.size := by
  rcases h with h | h
  · exact .inl (by rw [h]; rfl)
  · exact .inr (by rw [h]; simp [Value.ownBlock])

/-- 'x.Levels = append(x.Levels, v)'. -/
theorem Cmp.appL {H : Nat} {W : World} {sL sB : Value} {vs bs : List Int} {z : Int} (c : Cmp H W sL sB vs bs z) (v : Int) (tmp : Obj) (v1 : Value) (w1 : World)
    (hown : w1.ownsRow (H + 1 + 1) 3 1 v1 (vs.length + 1) (vs.map (Value.int .i64) ++ [.int .i64 v])) (hgrow : (W.alloc tmp).grownBy w1 sL.ownBlock)
    (hat : v1.ownBlock = sL.ownBlock ∨ v1.ownBlock = some (W.alloc tmp).heap.size) :
    (w1.cell? ⟨H + 1, 0, none⟩ = some sL ∧ w1.frozen? ⟨H + 1, 0, none⟩ = false) ∧ Below (H + 1 + 1) W w1 ∧
    Hid (Below H W (w1.setCell ⟨H + 1, 0, none⟩ v1) ∧ Cmp H (w1.setCell ⟨H + 1, 0, none⟩ v1) v1 sB (vs ++ [v]) bs z) := by
  have hsz := c.sz
  obtain ⟨o1, a1, _, b1⟩ := appended c.oL c.oB c.ap (by omega) hgrow hat
  have hx : Box w1 (H + 1) 25 _ := c.x.below b1 (by omega)
  have hr : Box w1 H 25 _ := c.r.below b1 (by omega)
  refine ⟨⟨by simpa using hx.cell 0, hx.frozen 0⟩, b1, (b1.mono (by omega)).setCell (p := ⟨H + 1, 0, none⟩) (by simp) _, ?_, ?_, ?_, ?_, a1, ?_⟩
  · simpa using hx.set 0 v1
  · exact hr.far (p := ⟨H + 1, 0, none⟩) (by simp) v1
  · simpa using ownsRow_setCell_below hown (a := ⟨H + 1, 0, none⟩) (by simp) v1
  · exact ownsRow_setCell_below o1 (a := ⟨H + 1, 0, none⟩) (by simp) v1
  · have := b1.size
    simp [World.setCell]; omega

/-- 'x.Before = append(x.Before, b)'. -/
theorem Cmp.appB {H : Nat} {W : World} {sL sB : Value} {vs bs : List Int} {z : Int} (c : Cmp H W sL sB vs bs z) (b : Int) (tmp : Obj) (v1 : Value) (w1 : World)
    (hown : w1.ownsRow (H + 1 + 1) 3 1 v1 (bs.length + 1) (bs.map (Value.int .i64) ++ [.int .i64 b])) (hgrow : (W.alloc tmp).grownBy w1 sB.ownBlock)
    (hat : v1.ownBlock = sB.ownBlock ∨ v1.ownBlock = some (W.alloc tmp).heap.size) :
    (w1.cell? ⟨H + 1, 0, none⟩ = some sL ∧ w1.cell? ⟨H + 1, 2, none⟩ = some sB ∧ w1.frozen? ⟨H + 1, 2, none⟩ = false) ∧ Below (H + 1 + 1) W w1 ∧
    Hid (Below H W (w1.setCell ⟨H + 1, 2, none⟩ v1) ∧ Cmp H (w1.setCell ⟨H + 1, 2, none⟩ v1) sL v1 vs (bs ++ [b]) z) := by
  have hsz := c.sz
  obtain ⟨o1, a1, _, b1⟩ := appended c.oB c.oL c.ap.symm (by omega) hgrow hat
  have hx : Box w1 (H + 1) 25 _ := c.x.below b1 (by omega)
  have hr : Box w1 H 25 _ := c.r.below b1 (by omega)
  refine ⟨⟨by simpa using hx.cell 0, by simpa using hx.cell 2, hx.frozen 2⟩, b1, (b1.mono (by omega)).setCell (p := ⟨H + 1, 2, none⟩) (by simp) _, ?_, ?_, ?_, ?_, a1.symm, ?_⟩
  · simpa using hx.set 2 v1
  · exact hr.far (p := ⟨H + 1, 2, none⟩) (by simp) v1
  · exact ownsRow_setCell_below o1 (a := ⟨H + 1, 2, none⟩) (by simp) v1
  · simpa using ownsRow_setCell_below hown (a := ⟨H + 1, 2, none⟩) (by simp) v1
  · have := b1.size
    simp [World.setCell]; omega

/-- 'return x'. -/
theorem Cmp.ret {H : Nat} {w W : World} {sL sB : Value} {vs bs : List Int} {z : Int} (c : Cmp H W sL sB vs bs z) (hB : Below H w W) (hv : vs.length ≤ 4096) (hb : bs.length ≤ 4096) :
    (((W.setCell ⟨H, 0, none⟩ sL).setCell ⟨H, 1, none⟩ (.int .i64 z)).setCell ⟨H, 2, none⟩ sB).cell? ⟨H, 0, none⟩ = some sL ∧
    (((W.setCell ⟨H, 0, none⟩ sL).setCell ⟨H, 1, none⟩ (.int .i64 z)).setCell ⟨H, 2, none⟩ sB).cell? ⟨H, 1, none⟩ = some (.int .i64 z) ∧
    (((W.setCell ⟨H, 0, none⟩ sL).setCell ⟨H, 1, none⟩ (.int .i64 z)).setCell ⟨H, 2, none⟩ sB).cell? ⟨H, 2, none⟩ = some sB ∧
    Ints (((W.setCell ⟨H, 0, none⟩ sL).setCell ⟨H, 1, none⟩ (.int .i64 z)).setCell ⟨H, 2, none⟩ sB) sL vs ∧
    Ints (((W.setCell ⟨H, 0, none⟩ sL).setCell ⟨H, 1, none⟩ (.int .i64 z)).setCell ⟨H, 2, none⟩ sB) sB bs ∧
    Below H w (((W.setCell ⟨H, 0, none⟩ sL).setCell ⟨H, 1, none⟩ (.int .i64 z)).setCell ⟨H, 2, none⟩ sB) := by
  have hsz := c.sz
  have b3 : Box (((W.setCell ⟨H, 0, none⟩ sL).setCell ⟨H, 1, none⟩ (.int .i64 z)).setCell ⟨H, 2, none⟩ sB) H 25 #[sL, .int .i64 z, sB] := by simpa using ((c.r.set 0 sL).set 1 (.int .i64 z)).set 2 sB
  have o1 := ownsRow_setCell_below (ownsRow_setCell_below (ownsRow_setCell_below c.oL (a := ⟨H, 0, none⟩) (by simp <;> omega) sL) (a := ⟨H, 1, none⟩) (by simp <;> omega) (.int .i64 z)) (a := ⟨H, 2, none⟩) (by simp <;> omega) sB
  have o2 := ownsRow_setCell_below (ownsRow_setCell_below (ownsRow_setCell_below c.oB (a := ⟨H, 0, none⟩) (by simp <;> omega) sL) (a := ⟨H, 1, none⟩) (by simp <;> omega) (.int .i64 z)) (a := ⟨H, 2, none⟩) (by simp <;> omega) sB
  exact ⟨by simpa using b3.cell 0, by simpa using b3.cell 1, by simpa using b3.cell 2, (ints_of_own o1 hv).1, (ints_of_own o2 hb).1, ((hB.setCell (p := ⟨H, 0, none⟩) (by simp) sL).setCell (p := ⟨H, 1, none⟩) (by simp) (.int .i64 z)).setCell (p := ⟨H, 2, none⟩) (by simp) sB⟩

theorem Cmp.lawL {H : Nat} {W : World} {sL sB : Value} {vs bs : List Int} {z : Int} (c : Cmp H W sL sB vs bs z) (v : Int) (tmp : Obj) :
    Hid (∀ (w1 : World) (g1 cap1 : Nat), w1.ownsRow (H + 1 + 1) 3 1 (.slice (some ⟨g1, 0, none⟩) (vs.length + 1) cap1) (vs.length + 1) (vs.map (Value.int .i64) ++ [Value.int .i64 v]) → ((W.alloc tmp).drew).grownBy w1 sL.ownBlock → (sL.ownBlock = some g1 ∨ g1 = W.heap.size + 1) →
      w1.cell? ⟨H + 1, 0, none⟩ = some sL ∧ w1.frozen? ⟨H + 1, 0, none⟩ = false ∧ Hid (Below H W (w1.setCell ⟨H + 1, 0, none⟩ (.slice (some ⟨g1, 0, none⟩) (vs.length + 1) cap1)) ∧ Cmp H (w1.setCell ⟨H + 1, 0, none⟩ (.slice (some ⟨g1, 0, none⟩) (vs.length + 1) cap1)) (.slice (some ⟨g1, 0, none⟩) (vs.length + 1) cap1) sB (vs ++ [v]) bs z)) := by
  intro w1 g1 cap1 h1 h2 h3
  obtain ⟨⟨c0, f0⟩, b1, HH⟩ := c.appL v _ _ w1 h1 (grown_drew h2) (lies_at h3)
  exact ⟨c0, f0, HH⟩

set_option maxRecDepth 100000 in
set_option maxHeartbeats 4000000 in
theorem rof_yes (sv : Value) (zs : List Int) (w : World) (h : Ints w sv zs) (hz : Fits zs) (hs : zs.length = 4 ∨ zs.length = 15 ∨ zs.length = 16) :
    Calls Try.prog 12 #[sv] w fun e w' => ∃ sL sB, e = .returned (.tuple #[.agg #[sL, .int .i64 (zer zs), sB], .int .i64 0]) ∧ Ints w' sL (lev zs) ∧ Ints w' sB (bef zs) ∧ Below w.heap.size w w' := by
  obtain ⟨i0, hi, hz0, hz1, hz2⟩ := info_parts info3
  have hI := h
  rcases h with ⟨a, cap, rfl, rfl⟩ | ⟨b, off, cap, rfl, h0, hl, hc⟩
  · simp at hs
  have hlen : zs.length ≤ 16 := by omega
  have hb : b < w.heap.size := World.block_lt_of_cell? _ _ (hc.out 0 h0)
  have HS := Lib.hid hs
  have HI := Lib.hid hI
  clear hs hI
  have HB0 := Lib.hid (((Below.refl w.heap.size w).alloc (Nat.le_refl _) (.cells #[.slice none 0 0, .int .i64 0, .slice none 0 0] 25)).alloc (by simp) (.cells #[.slice none 0 0, .int .i64 0, .slice none 0 0] 25))
  go_enter Try.func12, Try.ntmps12
  go_wp2_with (first
    | (go_at_call 25; refine (sized_yes 25 (.inr rfl) _ _ (by have := HS.out; omega)).mono ?_; rintro e w' ⟨rfl, rfl⟩)
    | (go_at_call 26; refine (rranged_yes _ zs _ (HI.out.below HB0.out) hz).mono ?_; rintro e w' ⟨rfl, rfl⟩))
  go_loopw [5, 6] (fun z i wr => ∃ (k : Nat) (sL sB : Value), k ≤ zs.length ∧ i = .int .i64 ((k : Int) - 1) ∧ z = .int .i64 (gap (zs.drop k) : Int) ∧ Cmp w.heap.size wr sL sB (lev (zs.drop k)) (bef (zs.drop k)) 0 ∧ Below w.heap.size w wr) (fun _ i _ => (intOf i + 1).toNat)
  case atStart =>
    have B0 := Box.new w 25 #[.slice none 0 0, .int .i64 0, .slice none 0 0]
    have B1 := Box.new (w.alloc (.cells #[.slice none 0 0, .int .i64 0, .slice none 0 0] 25)) 25 #[.slice none 0 0, .int .i64 0, .slice none 0 0]
    simp only [World.size_alloc] at B1
    refine ⟨zs.length, .slice none 0 0, .slice none 0 0, Nat.le_refl _, rfl, by simp [gap_nil], ⟨B1, B0.alloc _, ?_, ?_, fun g h _ => by simp [Value.ownBlock] at h, by simp⟩, HB0.out⟩
    · simp only [List.drop_length, lev_nil]; exact World.ownsRow_nil _ _ _ _
    · simp only [List.drop_length, bef_nil]; exact World.ownsRow_nil _ _ _ _
  case round =>
    obtain ⟨k, sL, sB, hk, rfl, rfl, c, hB⟩ := hrel
    have hvl := lev_length_le (zs.drop k)
    have hbl := bef_length (zs.drop k)
    have hgl : gap (zs.drop k) ≤ 16 := by have := gap_le (zs.drop k); simp at this; omega
    obtain ⟨aL, cL, rfl⟩ := own_form c.oL
    obtain ⟨aB, cB, rfl⟩ := own_form c.oB
    simp at hvl
    have hWsz := c.sz
    have x0 : wr.cell? ⟨w.heap.size + 1, 0, none⟩ = some (.slice aL (lev (zs.drop k)).length cL) := by simpa using c.x.cell 0
    have x1 : wr.cell? ⟨w.heap.size + 1, 1, none⟩ = some (.int .i64 0) := by simpa using c.x.cell 1
    have x2 : wr.cell? ⟨w.heap.size + 1, 2, none⟩ = some (.slice aB (bef (zs.drop k)).length cB) := by simpa using c.x.cell 2
    have p0 := c.x.frozen 0
    have p1 := c.x.frozen 1
    have p2 := c.x.frozen 2
    cases k with
    | zero =>
      clear hbl
      simp only [List.drop_zero] at c hvl hgl x0 x2 ⊢
      have hbl := bef_length zs
      have hsum : 0 ≤ zer zs ∧ zer zs ≤ 16 := ⟨zer_nonneg zs, by have := (poss_of zs).z1; omega⟩
      have hbl' := Lib.hid hbl
      have hb16 : (bef zs).length ≤ 16 := by omega
      clear hbl
      obtain ⟨wo, rfl⟩ : ∃ wo : World, wo = wr := ⟨_, rfl⟩
      have z0 : wo.cell? ⟨w.heap.size, 0, none⟩ = some (.slice none 0 0) := by simpa using c.r.cell 0
      have z1 : wo.cell? ⟨w.heap.size, 1, none⟩ = some (.int .i64 0) := by simpa using c.r.cell 1
      have z2 : wo.cell? ⟨w.heap.size, 2, none⟩ = some (.slice none 0 0) := by simpa using c.r.cell 2
      have q0 := c.r.frozen 0
      have q1 := c.r.frozen 1
      have q2 := c.r.frozen 2
      by_cases hvs : lev zs = []
      · have hl0 : (lev zs).length = 0 := by rw [hvs]; rfl
        have hzz := Lib.hid (show zer zs = 0 from by unfold zer; rw [if_pos hvs])
        rw [hl0] at x0
        have C := Lib.hid c
        clear c hvs
        have HC := Lib.hid (C.out.ret hB (by omega) (by omega))
        go_wp2
        obtain ⟨r0, r1, r2, i1, i2, bb⟩ := HC.out
        have hzz' := hzz.out
        rw [hl0] at r0 r1 r2 i1 i2 bb
        refine bodyPost_ret (v := .tuple #[.agg #[.slice aL 0 cL, .int .i64 (zer zs), .slice aB (bef zs).length cB], .int .i64 0]) (by simp [results, Try.f12, go_sem, r0, r1, r2, hzz']) rfl ⟨_, _, rfl, i1, i2, bb⟩
      · have hpos : 0 < (lev zs).length := List.length_pos_iff.2 hvs
        have hzg := zer_gap zs hvs
        have hs0 := sum_nonneg _ (bef_nonneg zs)
        have hbn := Lib.hid (bef_nonneg zs)
        have hB2 : Below w.heap.size w (wo.setCell ⟨w.heap.size + 1, 1, none⟩ (.int .i64 (gap zs : Int))) := hB.setCell (by simp) _
        have C := Lib.hid (c.setZ (gap zs : Int))
        have HB2 := Lib.hid hB2
        clear c hvs hB2
        have HZG := Lib.hid hzg
        clear hzg
        go_wp2
        go_loopw [7] (fun i wr => ∃ m : Nat, m ≤ (bef zs).length ∧ i = .int .i64 m ∧ Cmp w.heap.size wr (.slice aL (lev zs).length cL) (.slice aB (bef zs).length cB) (lev zs) (bef zs) ((gap zs : Int) + ((bef zs).take m).sum) ∧ Below w.heap.size w wr) (fun i _ => (bef zs).length - (intOf i).toNat)
        case atStart => exact ⟨0, Nat.zero_le _, rfl, by simpa using C.out, HB2.out⟩
        case round =>
          obtain ⟨m, hm, rfl, c, hBw⟩ := hrel
          have y1 : wr.cell? ⟨w.heap.size + 1, 1, none⟩ = some (.int .i64 ((gap zs : Int) + ((bef zs).take m).sum)) := by simpa using c.x.cell 1
          have y2 : wr.cell? ⟨w.heap.size + 1, 2, none⟩ = some (.slice aB (bef zs).length cB) := by simpa using c.x.cell 2
          have yf := c.x.frozen 1
          have hst := sum_take (bef zs) hbn.out m
          have hst2 := sum_take (bef zs) hbn.out (m + 1)
          have hzg := HZG.out
          by_cases hlt : m < (bef zs).length
          · have hsucc := sum_take_succ (bef zs) m hlt
            obtain ⟨b', off', v, rfl, hcx, HV⟩ := (ints_of_own c.oB (by omega)).1.at_ hlt
            rw [HV.out] at hsucc
            have hv0 : 0 ≤ v := by rw [← HV.out]; simp [hlt]; exact hbn.out _ (List.getElem_mem hlt)
            have HS2 := Lib.hid hsucc
            have hv1 : v ≤ 16 := by omega
            clear hsucc hst2
            generalize ((bef zs).take m).sum = s at *
            have hs1 : 0 ≤ s := hst.1
            have hs2 : s ≤ 16 := by omega
            have C2 := Lib.hid (c.setZ ((gap zs : Int) + s + v))
            have B2 := Lib.hid (hBw.setCell (p := ⟨w.heap.size + 1, 1, none⟩) (by simp) (.int .i64 ((gap zs : Int) + s + v)))
            clear hst hzg c hBw
            have m0 : (0 : Int) ≤ (m : Int) := by omega
            have m1 : (m : Int) < ((bef zs).length : Int) := by omega
            go_wp2
            go_region
            go_wp2
            go_roundw
            case rel => exact ⟨m + 1, by omega, by go_num, by rw [HS2.out, ← Int.add_assoc]; exact C2.out.drew, B2.out.drew⟩
            case measure => simp [intOf]; omega
          · obtain rfl : m = (bef zs).length := by omega
            rw [List.take_length] at c y1
            have hzf : (gap zs : Int) + (bef zs).sum = zer zs := by omega
            rw [hzf] at c y1
            have HC := Lib.hid (c.ret hBw (by omega) (by omega))
            have z0 : wr.cell? ⟨w.heap.size, 0, none⟩ = some (.slice none 0 0) := by simpa using c.r.cell 0
            have z1 : wr.cell? ⟨w.heap.size, 1, none⟩ = some (.int .i64 0) := by simpa using c.r.cell 1
            have z2 : wr.cell? ⟨w.heap.size, 2, none⟩ = some (.slice none 0 0) := by simpa using c.r.cell 2
            have y0 : wr.cell? ⟨w.heap.size + 1, 0, none⟩ = some (.slice aL (lev zs).length cL) := by simpa using c.x.cell 0
            have q0 := c.r.frozen 0
            have q1 := c.r.frozen 1
            have q2 := c.r.frozen 2
            clear c hzf hst hst2 hzg
            go_wp2
            obtain ⟨r0, r1, r2, i1, i2, bb⟩ := HC.out
            refine bodyPost_ret (v := .tuple #[.agg #[.slice aL (lev zs).length cL, .int .i64 (zer zs), .slice aB (bef zs).length cB], .int .i64 0]) (by simp [results, Try.f12, go_sem, r0, r1, r2]) rfl ⟨_, _, rfl, i1, i2, bb⟩
    | succ j =>
      have hj : j < zs.length := by omega
      rw [show (((j + 1 : Nat) : Int) - 1) = (j : Int) from by omega]
      obtain ⟨v, hcx, HV⟩ := named_below hc hj hB
      have HD := Lib.hid (show zs.drop j = v :: zs.drop (j + 1) from by rw [List.drop_eq_getElem_cons hj]; have := HV.out; simp [hj] at this; rw [this])
      have hbl2 : (bef (zs.drop (j + 1))).length ≤ 16 := by omega
      clear hbl
      generalize hr : zs.drop (j + 1) = r at *
      clear hr
      by_cases hv : v = 0
      · have e1 : (v == 0) = true := by simp [hv]
        have HV0 := Lib.hid hv
        clear hv
        have C := Lib.hid c
        clear c
        go_wp2
        go_roundw
        case rel => exact ⟨j, _, _, by omega, rfl, by rw [HD.out, HV0.out, gap_zero]; go_num, by rw [HD.out, HV0.out, lev_zero, bef_zero]; exact C.out, hB⟩
        case measure => simp [intOf]
      · have e1 : (v == 0) = false := by simp [hv]
        have HV0 := Lib.hid hv
        clear hv
        have hg0 : gap (v :: r) = 0 := gap_cons HV0.out r
        have hl0 : lev (v :: r) = lev r ++ [v] := lev_cons HV0.out r
        have hb0 : lev r = [] → bef (v :: r) = bef r := fun h => bef_cons_first HV0.out r h
        have hb1 : lev r ≠ [] → bef (v :: r) = bef r ++ [(gap r : Int)] := fun h => bef_cons_next HV0.out r h
        rw [← HD.out] at hg0 hl0 hb0 hb1
        have HG0 := Lib.hid hg0
        have HL0 := Lib.hid hl0
        have HB1 := Lib.hid hb0
        have HB2 := Lib.hid hb1
        clear hg0 hl0 hb0 hb1 HD
        generalize lev r = vs at *
        generalize bef r = bs at *
        generalize gap r = gp at *
        have j0 : (0 : Int) ≤ (j : Int) := by omega
        have j1 : (j : Int) < (zs.length : Int) := by omega
        have oB := c.oB
        by_cases hvs : vs = []
        · have HB3 := Lib.hid (HB1.out hvs)
          clear HB1 HB2
          subst hvs
          have oL := c.oL
          simp only [List.length_nil, List.map_nil] at oL x0
          have C := Lib.hid c
          clear c
          go_wp2
          have LL := C.out.lawL v (.cells #[.int .i64 v] 3)
          go_region_law ((refine step_append_lies _ (by rfl) _ _ _ (by rfl) (w.heap.size + 1 + 1) 3 i0 _ 1 8 Try.underlying22 hi hz0 hz1 hz2 rfl (by omega) (.slice aL 0 cL) 0 [] (by rfl) (oL.alloc _) ⟨wr.heap.size, 0, none⟩ 1 1 [.int .i64 v] (by rfl) (by rfl) (World.news_of_block (cs := #[.int .i64 v]) (t := 3) (fr := (0, 0)) (heap_alloc_new wr _)) (by simp [Value.oneCell']) (by omega) (by simp [maxLen]) (by omega) (by simp; omega) (wr.heap.size + 1) (by simp) ?_; intro g1 cap1 w1 hown1 hgrow hat hlt; have hh := LL.out _ _ _ hown1 hgrow hat; have c0 := hh.1; have f0 := hh.2.1; have HH := hh.2.2; clear hh))
          all_goals
            go_wp2
            go_roundw
            case rel => exact ⟨j, _, _, by omega, rfl, by rw [HG0.out]; rfl, by rw [HL0.out, HB3.out]; exact HH.out.2, hB.trans HH.out.1⟩
            case measure => simp [intOf]
        · have hpos : 0 < vs.length := List.length_pos_iff.2 hvs
          have HVN := Lib.hid hvs
          clear hvs
          have C := Lib.hid c
          clear c
          go_wp2_with (at_builtin; refine wpList_append_lies _ rfl (.tmp 36) (.tmp 38) 22 rfl (w.heap.size + 1 + 1) 3 i0 (.int .i64 0) 1 8 Try.underlying22 hi hz0 hz1 hz2 rfl (by decide) (.slice aB bs.length cB) bs.length (bs.map (Value.int .i64)) rfl (oB.alloc _) ⟨wr.heap.size, 0, none⟩ 1 1 [.int .i64 (gp : Int)] rfl rfl (cell_one_new _ _ _) (by simp [Value.oneCell']) (by decide) (by simp [maxLen]; omega) (by omega) (by simp; omega) (wr.heap.size + 1) (by simp) ?_; intro g1 cap1 w1 hown1 hgrow1 hat1 hlt1; obtain ⟨⟨c0, c2, f2⟩, b1, HH⟩ := C.out.appB (gp : Int) _ _ w1 hown1 hgrow1 (lies_at hat1))
          obtain ⟨b2, C2⟩ := HH.out
          clear HH c0 c2 f2
          generalize w1.setCell ⟨w.heap.size + 1, 2, none⟩ (.slice (some ⟨g1, 0, none⟩) (bs.length + 1) cap1) = W2 at *
          have y0 : W2.cell? ⟨w.heap.size + 1, 0, none⟩ = some (.slice aL vs.length cL) := by simpa using C2.x.cell 0
          have q0 := C2.x.frozen 0
          have hcy := (b2.cell (p := ⟨b, off + j, none⟩) (by simp; omega)).trans hcx
          have hsz2 := C2.sz
          have oL := C2.oL
          have LL := C2.lawL v (.cells #[.int .i64 v] 3)
          have C3 := Lib.hid C2
          have B2 := Lib.hid b2
          have B1 := Lib.hid b1
          clear C2 b2 b1
          go_region_law ((refine step_append_lies _ (by rfl) _ _ _ (by rfl) (w.heap.size + 1 + 1) 3 i0 _ 1 8 Try.underlying22 hi hz0 hz1 hz2 rfl (by omega) (.slice aL vs.length cL) vs.length (vs.map (Value.int .i64)) (by rfl) (oL.alloc _) ⟨W2.heap.size, 0, none⟩ 1 1 [.int .i64 v] (by rfl) (by rfl) (World.news_of_block (cs := #[.int .i64 v]) (t := 3) (fr := (0, 0)) (heap_alloc_new W2 _)) (by simp [Value.oneCell']) (by omega) (by simp [maxLen]; omega) (by omega) (by simp; omega) (W2.heap.size + 1) (by simp) ?_; intro g3 cap3 w3 hown3 hgrow3 hat3 hlt3; have hh := LL.out _ _ _ hown3 hgrow3 hat3; have c0 := hh.1; have f0 := hh.2.1; have HH := hh.2.2; clear hh))
          all_goals
            go_wp2
            go_roundw
            case rel => exact ⟨j, _, _, by omega, rfl, by rw [HG0.out]; rfl, by rw [HL0.out, HB2.out HVN.out]; exact HH.out.2, hB.trans (B2.out.trans HH.out.1)⟩
            case measure => simp [intOf]
end Go.Proofs.Ytcaglhodkdfncaa
