/- runs.Of returns the levels and runs of a block. -/
import Derived.Test.YtcaglhodkdfncaaXs
namespace Go.Proofs.Ytcaglhodkdfncaa
open Go.RowKit Go.Shelf

attribute [local go_sem] Oper.semAt_some

/-- The state of Of after some pairs: levels, before, zeros, the last number. -/
def ostp (s : List Int × List Int × Int × Int) (x : Pr) : List Int × List Int × Int × Int :=
  (s.1 ++ [x.2], (if s.1 = [] then s.2.1 else s.2.1 ++ [s.2.2.2 - (x.1.val : Int) - 1]), (if s.1 = [] then s.2.2.1 else s.2.2.1 + s.2.2.2 - (x.1.val : Int) - 1), (x.1.val : Int))
def ofold (pre : List Pr) : List Int × List Int × Int × Int := pre.foldl ostp ([], [], 0, 0)
theorem ofold_snoc (pre : List Pr) (x : Pr) : ofold (pre ++ [x]) = ostp (ofold pre) x := by simp [ofold]
theorem ofold_len (pre : List Pr) : (ofold pre).1.length = pre.length := by
  suffices h : ∀ (pre : List Pr) s, (pre.foldl ostp s).1.length = s.1.length + pre.length by simpa [ofold] using h pre ([], [], 0, 0)
  intro pre
  induction pre with
  | nil => simp
  | cons a r ih => intro s; rw [List.foldl_cons, ih]; simp [ostp]; omega
theorem ofold_bd (pre : List Pr) : -(4096 * (pre.length : Int)) ≤ (ofold pre).2.2.1 ∧ (ofold pre).2.2.1 ≤ 4096 * (pre.length : Int) ∧ 0 ≤ (ofold pre).2.2.2 ∧ (ofold pre).2.2.2 < 4096 ∧ (ofold pre).2.1.length ≤ pre.length := by
  suffices h : ∀ (pre : List Pr) (s : List Int × List Int × Int × Int) (c : Nat), (-(4096 * (c : Int)) ≤ s.2.2.1 ∧ s.2.2.1 ≤ 4096 * (c : Int) ∧ 0 ≤ s.2.2.2 ∧ s.2.2.2 < 4096 ∧ s.2.1.length ≤ c) →
      -(4096 * ((c + pre.length : Nat) : Int)) ≤ (pre.foldl ostp s).2.2.1 ∧ (pre.foldl ostp s).2.2.1 ≤ 4096 * ((c + pre.length : Nat) : Int) ∧ 0 ≤ (pre.foldl ostp s).2.2.2 ∧ (pre.foldl ostp s).2.2.2 < 4096 ∧ (pre.foldl ostp s).2.1.length ≤ c + pre.length by
    simpa [ofold] using h pre ([], [], 0, 0) 0 (by simp)
  intro pre
  induction pre with
  | nil => intro s c h; simpa using h
  | cons a r ih =>
    intro s c ⟨h1, h2, h3, h4, h5⟩
    have ha := a.1.isLt
    have hh := ih (ostp s a) (c + 1) (by
      simp only [ostp]
      split
      · simp; omega
      · simp; omega)
    rw [List.foldl_cons, List.length_cons]
    rw [show c + (r.length + 1) = c + 1 + r.length from by omega]
    exact hh

theorem ofold_prs : ∀ (k : Nat) (r : List Int), k + r.length ≤ 4096 →
    (ofold (prs k r)).1 = lev r ∧ (ofold (prs k r)).2.1 = bef r ∧ (ofold (prs k r)).2.2.1 = (bef r).sum ∧ (lev r ≠ [] → (ofold (prs k r)).2.2.2 = k + gap r)
  | _, [], _ => by simp [prs, ofold, lev_nil, bef_nil]
  | k, v :: r, h => by
    obtain ⟨h1, h2, h3, h4⟩ := ofold_prs (k + 1) r (by simp at h; omega)
    have hk : k % 4096 = k := Nat.mod_eq_of_lt (by simp at h; omega)
    by_cases hv : v = 0
    · subst hv
      simp only [prs, if_true, List.append_nil, lev_zero, bef_zero, gap_zero]
      refine ⟨h1, h2, h3, fun h => ?_⟩
      rw [h4 h]; omega
    · simp only [prs, hv, if_false]
      rw [ofold_snoc]
      have hval : ((Fin.ofNat 4096 k : Fin 4096).val : Int) = k := by simp only [Fin.ofNat]; omega
      by_cases hl : lev r = []
      · obtain ⟨g1, g2, g3⟩ := bef_of_none r hl
        simp only [ostp, h1, h2, h3, hl, if_true, hval]
        rw [lev_cons hv, bef_cons_first hv r hl, gap_cons hv, hl]
        exact ⟨rfl, rfl, rfl, fun _ => by omega⟩
      · simp only [ostp, h1, h2, h3, hl, if_false, hval]
        rw [lev_cons hv, bef_cons_next hv r hl, gap_cons hv]
        rw [h4 hl]
        refine ⟨rfl, ?_, ?_, fun _ => by omega⟩
        · congr 2; omega
        · simp; omega

/-- What Of's own blocks hold between two rounds: the result, x, last, the box of the iterator's slice. -/
structure Comp (H : Nat) (W : World) (sL sB : Value) (vs bs : List Int) (z lt : Int) : Prop where
  x : Box W (H + 1) 25 #[sL, .int .i64 z, sB]
  l : Box W (H + 1 + 1) 3 #[.int .i64 lt]
  r : Box W H 25 #[.slice none 0 0, .int .i64 0, .slice none 0 0]
  oL : W.ownsRow (H + 1 + 1 + 1 + 1) 3 1 sL vs.length (vs.map (Value.int .i64))
  oB : W.ownsRow (H + 1 + 1 + 1 + 1) 3 1 sB bs.length (bs.map (Value.int .i64))
  ap : Apart sL sB
  sz : H + 1 + 1 + 1 < W.heap.size
def OfI (H : Nat) (pre : List Pr) (W : World) : Prop :=
  ∃ sL sB, Comp H W sL sB (ofold pre).1 (ofold pre).2.1 (ofold pre).2.2.1 (ofold pre).2.2.2

theorem Box.own {A B : World} {row : Option Nat} {g : Nat} {t : TypeId} {cs : Array Value} (h : Box A g t cs) (hg : A.grownBy B row) (hr : ∀ r, row = some r → ∃ o : Obj, A.heap[r]? = some o ∧ o.isCells = false) : Box B g t cs :=
  h.grown hg (fun e => by
    obtain ⟨o, ho, hc⟩ := hr g e.symm
    have h' : A.heap[g]? = _ := h
    rw [h'] at ho; cases ho; cases hc)
theorem row_own {A B : World} {row : Option Nat} {base n : Nat} {v : Value} {xs : List Value} (h : A.ownsRow base 3 1 v n xs) (hg : A.grownBy B row) (hr : ∀ r, row = some r → ∃ o : Obj, A.heap[r]? = some o ∧ o.isCells = false) : B.ownsRow base 3 1 v n xs := by
  refine h.kept hg ?_
  cases hv : v.ownBlock with
  | none => exact .inl rfl
  | some g =>
    refine .inr (fun e => ?_)
    obtain ⟨o, ho, hc⟩ := hr g e.symm
    rw [own_cells h g o hv ho] at hc; cases hc

theorem OfI_own (H : Nat) : Own (OfI H) := by
  rintro pre A B row ⟨sL, sB, h⟩ hg hr
  exact ⟨sL, sB, h.x.own hg hr, h.l.own hg hr, h.r.own hg hr, row_own h.oL hg hr, row_own h.oB hg hr, h.ap, Nat.lt_of_lt_of_le h.sz hg.size⟩

theorem below_block {W w1 : World} {B k : Nat} (h : Below B W w1) (hk : k < B) : w1.heap[k]? = W.heap[k]? := h.block k hk

/-- 'x.Levels = append(x.Levels, v); last = i'. -/
theorem Comp.appL {H : Nat} {W : World} {sL sB : Value} {vs bs : List Int} {z lt : Int} (c : Comp H W sL sB vs bs z lt) (v i : Int) (tmp : Obj) (v1 : Value) (w1 : World)
    (hown : w1.ownsRow (H + 1 + 1 + 1 + 1) 3 1 v1 (vs.length + 1) (vs.map (Value.int .i64) ++ [.int .i64 v])) (hgrow : (W.alloc tmp).grownBy w1 sL.ownBlock)
    (hat : v1.ownBlock = sL.ownBlock ∨ v1.ownBlock = some (W.alloc tmp).heap.size) :
    (w1.cell? ⟨H + 1, 0, none⟩ = some sL ∧ w1.frozen? ⟨H + 1, 0, none⟩ = false ∧ w1.cell? ⟨H + 1 + 1, 0, none⟩ = some (.int .i64 lt) ∧ w1.frozen? ⟨H + 1 + 1, 0, none⟩ = false) ∧
    Hid (KeepsOthers W ((w1.setCell ⟨H + 1, 0, none⟩ v1).setCell ⟨H + 1 + 1, 0, none⟩ (.int .i64 i)) ∧ Keep H (H + 1 + 1 + 1) W ((w1.setCell ⟨H + 1, 0, none⟩ v1).setCell ⟨H + 1 + 1, 0, none⟩ (.int .i64 i)) ∧
      Comp H ((w1.setCell ⟨H + 1, 0, none⟩ v1).setCell ⟨H + 1 + 1, 0, none⟩ (.int .i64 i)) v1 sB (vs ++ [v]) bs z i) := by
  have hsz := c.sz
  obtain ⟨o1, a1, k1, b1⟩ := appended c.oL c.oB c.ap (by omega) hgrow hat
  have hx : Box w1 (H + 1) 25 _ := c.x.below b1 (by omega)
  have hl : Box w1 (H + 1 + 1) 3 _ := c.l.below b1 (by omega)
  have hr : Box w1 H 25 _ := c.r.below b1 (by omega)
  refine ⟨⟨by simpa using hx.cell 0, hx.frozen 0, by simpa using hl.cell 0, hl.frozen 0⟩, (k1.trans (KeepsOthers.setCell _ _ _)).trans (KeepsOthers.setCell _ _ _), ⟨?_, ?_⟩, ?_⟩
  · exact ((b1.mono (by omega)).setCell (p := ⟨H + 1, 0, none⟩) (by simp <;> omega) _).setCell (p := ⟨H + 1 + 1, 0, none⟩) (by simp <;> omega) _
  · exact (Below.heap_setCell _ _ _ _ (by simp)).trans ((Below.heap_setCell _ _ _ _ (by simp; omega)).trans (b1.block _ (by omega)))
  · refine ⟨?_, ?_, ?_, ?_, ?_, a1, ?_⟩
    · simpa using (hx.set 0 v1).far (p := ⟨H + 1 + 1, 0, none⟩) (by simp <;> omega) _
    · simpa using (hl.far (p := ⟨H + 1, 0, none⟩) (by simp <;> omega) v1).set 0 (.int .i64 i)
    · exact (hr.far (p := ⟨H + 1, 0, none⟩) (by simp <;> omega) v1).far (p := ⟨H + 1 + 1, 0, none⟩) (by simp <;> omega) _
    · simpa using ownsRow_setCell_below (ownsRow_setCell_below hown (a := ⟨H + 1, 0, none⟩) (by simp <;> omega) v1) (a := ⟨H + 1 + 1, 0, none⟩) (by simp <;> omega) (.int .i64 i)
    · exact ownsRow_setCell_below (ownsRow_setCell_below o1 (a := ⟨H + 1, 0, none⟩) (by simp <;> omega) v1) (a := ⟨H + 1 + 1, 0, none⟩) (by simp <;> omega) (.int .i64 i)
    · have := b1.size
      simp [World.setCell]; omega

/-- 'x.Before = append(x.Before, b); x.Zeros = z2'. -/
theorem Comp.appB {H : Nat} {W : World} {sL sB : Value} {vs bs : List Int} {z lt : Int} (c : Comp H W sL sB vs bs z lt) (b z2 : Int) (tmp : Obj) (v1 : Value) (w1 : World)
    (hown : w1.ownsRow (H + 1 + 1 + 1 + 1) 3 1 v1 (bs.length + 1) (bs.map (Value.int .i64) ++ [.int .i64 b])) (hgrow : (W.alloc tmp).grownBy w1 sB.ownBlock)
    (hat : v1.ownBlock = sB.ownBlock ∨ v1.ownBlock = some (W.alloc tmp).heap.size) :
    (w1.cell? ⟨H + 1, 0, none⟩ = some sL ∧ w1.frozen? ⟨H + 1, 0, none⟩ = false ∧ w1.cell? ⟨H + 1, 1, none⟩ = some (.int .i64 z) ∧ w1.frozen? ⟨H + 1, 1, none⟩ = false ∧ w1.cell? ⟨H + 1, 2, none⟩ = some sB ∧ w1.frozen? ⟨H + 1, 2, none⟩ = false ∧
      w1.cell? ⟨H + 1 + 1, 0, none⟩ = some (.int .i64 lt) ∧ w1.frozen? ⟨H + 1 + 1, 0, none⟩ = false) ∧ W.heap.size ≤ w1.heap.size ∧
    Hid (KeepsOthers W ((w1.setCell ⟨H + 1, 2, none⟩ v1).setCell ⟨H + 1, 1, none⟩ (.int .i64 z2)) ∧ Keep H (H + 1 + 1 + 1) W ((w1.setCell ⟨H + 1, 2, none⟩ v1).setCell ⟨H + 1, 1, none⟩ (.int .i64 z2)) ∧
      Comp H ((w1.setCell ⟨H + 1, 2, none⟩ v1).setCell ⟨H + 1, 1, none⟩ (.int .i64 z2)) sL v1 vs (bs ++ [b]) z2 lt) := by
  have hsz := c.sz
  obtain ⟨o1, a1, k1, b1⟩ := appended c.oB c.oL c.ap.symm (by omega) hgrow hat
  have hx : Box w1 (H + 1) 25 _ := c.x.below b1 (by omega)
  have hl : Box w1 (H + 1 + 1) 3 _ := c.l.below b1 (by omega)
  have hr : Box w1 H 25 _ := c.r.below b1 (by omega)
  refine ⟨⟨by simpa using hx.cell 0, hx.frozen 0, by simpa using hx.cell 1, hx.frozen 1, by simpa using hx.cell 2, hx.frozen 2, by simpa using hl.cell 0, hl.frozen 0⟩, b1.size, (k1.trans (KeepsOthers.setCell _ _ _)).trans (KeepsOthers.setCell _ _ _), ⟨?_, ?_⟩, ?_⟩
  · exact ((b1.mono (by omega)).setCell (p := ⟨H + 1, 2, none⟩) (by simp <;> omega) _).setCell (p := ⟨H + 1, 1, none⟩) (by simp <;> omega) _
  · exact (Below.heap_setCell _ _ _ _ (by simp <;> omega)).trans ((Below.heap_setCell _ _ _ _ (by simp <;> omega)).trans (b1.block _ (by omega)))
  · refine ⟨?_, ?_, ?_, ?_, ?_, a1.symm, ?_⟩
    · simpa using (hx.set 2 v1).set 1 (.int .i64 z2)
    · exact (hl.far (p := ⟨H + 1, 2, none⟩) (by simp <;> omega) v1).far (p := ⟨H + 1, 1, none⟩) (by simp <;> omega) _
    · exact (hr.far (p := ⟨H + 1, 2, none⟩) (by simp <;> omega) v1).far (p := ⟨H + 1, 1, none⟩) (by simp <;> omega) _
    · exact ownsRow_setCell_below (ownsRow_setCell_below o1 (a := ⟨H + 1, 2, none⟩) (by simp <;> omega) v1) (a := ⟨H + 1, 1, none⟩) (by simp <;> omega) (.int .i64 z2)
    · simpa using ownsRow_setCell_below (ownsRow_setCell_below hown (a := ⟨H + 1, 2, none⟩) (by simp <;> omega) v1) (a := ⟨H + 1, 1, none⟩) (by simp <;> omega) (.int .i64 z2)
    · have := b1.size
      simp [World.setCell]; omega

theorem Comp.setZ {H : Nat} {W : World} {sL sB : Value} {vs bs : List Int} {z lt : Int} (c : Comp H W sL sB vs bs z lt) (z2 : Int) : Comp H (W.setCell ⟨H + 1, 1, none⟩ (.int .i64 z2)) sL sB vs bs z2 lt := by
  refine ⟨by simpa using c.x.set 1 (.int .i64 z2), c.l.far (by simp <;> omega) _, c.r.far (by simp <;> omega) _, ownsRow_setCell_below c.oL (by simp) _, ownsRow_setCell_below c.oB (by simp) _, c.ap, ?_⟩
  have := c.sz
  simp [World.setCell]; omega

/-- 'return x': the result's block behind the store, and behind the turn of the block of deferred calls. -/
theorem Comp.ret {H D : Nat} {w W : World} {sL sB : Value} {vs bs : List Int} {z lt : Int} (c : Comp H W sL sB vs bs z lt) (hB : Below H w W) (hD : H < D) (hK : W.heap[D]? = some (.deferred (some []))) (hv : vs.length ≤ 4096) (hb : bs.length ≤ 4096) :
    (((W.setCell ⟨H, 0, none⟩ sL).setCell ⟨H, 1, none⟩ (.int .i64 z)).setCell ⟨H, 2, none⟩ sB).heap[D]? = some (.deferred (some [])) ∧
    ((((W.setCell ⟨H, 0, none⟩ sL).setCell ⟨H, 1, none⟩ (.int .i64 z)).setCell ⟨H, 2, none⟩ sB).putObj D (.deferred none)).cell? ⟨H, 0, none⟩ = some sL ∧
    ((((W.setCell ⟨H, 0, none⟩ sL).setCell ⟨H, 1, none⟩ (.int .i64 z)).setCell ⟨H, 2, none⟩ sB).putObj D (.deferred none)).cell? ⟨H, 1, none⟩ = some (.int .i64 z) ∧
    ((((W.setCell ⟨H, 0, none⟩ sL).setCell ⟨H, 1, none⟩ (.int .i64 z)).setCell ⟨H, 2, none⟩ sB).putObj D (.deferred none)).cell? ⟨H, 2, none⟩ = some sB ∧
    Ints ((((W.setCell ⟨H, 0, none⟩ sL).setCell ⟨H, 1, none⟩ (.int .i64 z)).setCell ⟨H, 2, none⟩ sB).putObj D (.deferred none)) sL vs ∧
    Ints ((((W.setCell ⟨H, 0, none⟩ sL).setCell ⟨H, 1, none⟩ (.int .i64 z)).setCell ⟨H, 2, none⟩ sB).putObj D (.deferred none)) sB bs ∧
    Below H w ((((W.setCell ⟨H, 0, none⟩ sL).setCell ⟨H, 1, none⟩ (.int .i64 z)).setCell ⟨H, 2, none⟩ sB).putObj D (.deferred none)) := by
  have hsz := c.sz
  have k0 : (((W.setCell ⟨H, 0, none⟩ sL).setCell ⟨H, 1, none⟩ (.int .i64 z)).setCell ⟨H, 2, none⟩ sB).heap[D]? = some (.deferred (some [])) :=
    (Below.heap_setCell _ _ _ _ (by simp <;> omega)).trans ((Below.heap_setCell _ _ _ _ (by simp <;> omega)).trans ((Below.heap_setCell _ _ _ _ (by simp <;> omega)).trans hK))
  have b3 : Box (((W.setCell ⟨H, 0, none⟩ sL).setCell ⟨H, 1, none⟩ (.int .i64 z)).setCell ⟨H, 2, none⟩ sB) H 25 #[sL, .int .i64 z, sB] := by simpa using ((c.r.set 0 sL).set 1 (.int .i64 z)).set 2 sB
  have b4 : Box ((((W.setCell ⟨H, 0, none⟩ sL).setCell ⟨H, 1, none⟩ (.int .i64 z)).setCell ⟨H, 2, none⟩ sB).putObj D (.deferred none)) H 25 #[sL, .int .i64 z, sB] := (World.putObj_heap_other (by omega)).trans b3
  have o1 := ownsRow_putObj (ownsRow_setCell_below (ownsRow_setCell_below (ownsRow_setCell_below c.oL (a := ⟨H, 0, none⟩) (by simp; omega) sL) (a := ⟨H, 1, none⟩) (by simp; omega) (.int .i64 z)) (a := ⟨H, 2, none⟩) (by simp; omega) sB) (.deferred none) k0 rfl
  have o2 := ownsRow_putObj (ownsRow_setCell_below (ownsRow_setCell_below (ownsRow_setCell_below c.oB (a := ⟨H, 0, none⟩) (by simp; omega) sL) (a := ⟨H, 1, none⟩) (by simp; omega) (.int .i64 z)) (a := ⟨H, 2, none⟩) (by simp; omega) sB) (.deferred none) k0 rfl
  refine ⟨k0, by simpa using b4.cell 0, by simpa using b4.cell 1, by simpa using b4.cell 2, (ints_of_own o1 hv).1, (ints_of_own o2 hb).1, ?_⟩
  exact (((hB.setCell (p := ⟨H, 0, none⟩) (by simp) sL).setCell (p := ⟨H, 1, none⟩) (by simp) (.int .i64 z)).setCell (p := ⟨H, 2, none⟩) (by simp) sB).grown (grownBy_putObj' _ D _) (by simp [World.setCell]; omega) (fun k e => by cases e; omega)

set_option maxRecDepth 100000 in
set_option maxHeartbeats 4000000 in
theorem of_yes (sv : Value) (zs : List Int) (w : World) (h : Ints w sv zs) (hz : Fits zs) (hs : zs.length = 4 ∨ zs.length = 15 ∨ zs.length = 16) :
    Calls Try.prog 11 #[sv] w fun e w' => ∃ sL sB, e = .returned (.tuple #[.agg #[sL, .int .i64 (zer zs), sB], .int .i64 0]) ∧ Ints w' sL (lev zs) ∧ Ints w' sB (bef zs) ∧ Below w.heap.size w w' := by
  obtain ⟨i0, hi, hz0, hz1, hz2⟩ := info_parts info3
  obtain ⟨a, cap, rfl⟩ := h.form
  have hlen : zs.length ≤ 16 := by omega
  refine (callsIn_wide (n := 5)).1 ?_
  refine callsIn_of_wp_marks Try.func11 rfl trivial ?_
  simp only [Try.ntmps11, List.size_toArray, List.length_cons, List.length_nil, Nat.reduceAdd, Nat.reduceSub, Array.replicate_succ, Array.replicate_zero, List.push_toArray, List.append_toArray, List.nil_append, List.cons_append]
  have HS := Lib.hid hs
  have HI := Lib.hid h
  clear hs h
  gi_wp2_with (first
    | (refine ⟨trivial, ?_⟩; gi_at_call 22; refine (callsIn_wide.2 (sized_yes 22 (.inl rfl) _ _ (by have := HS.out; omega))).mono ?_; rintro e w' ⟨rfl, rfl⟩)
    | (refine ⟨trivial, ?_⟩; gi_at_call 23; refine (callsIn_wide.2 (ranged_yes _ zs _ (HI.out.below ((Below.refl _ w).alloc (Nat.le_refl _) _)) hz)).mono ?_; rintro e w' ⟨rfl, rfl⟩)
    | (refine ⟨trivial, ?_⟩; gi_at_call 24; refine (backwards_in _ _ trivial rfl _ _ _ _).mono ?_; rintro e w' ⟨rfl, rfl⟩))
  have B0 := Box.new w 25 #[.slice none 0 0, .int .i64 0, .slice none 0 0]
  have B1 := Box.new (w.alloc (.cells #[.slice none 0 0, .int .i64 0, .slice none 0 0] 25)) 25 #[.slice none 0 0, .int .i64 0, .slice none 0 0]
  have B2 := Box.new ((w.alloc (.cells #[.slice none 0 0, .int .i64 0, .slice none 0 0] 25)).alloc (.cells #[.slice none 0 0, .int .i64 0, .slice none 0 0] 25)) 3 #[.int .i64 0]
  have B3 := Box.new (((w.alloc (.cells #[.slice none 0 0, .int .i64 0, .slice none 0 0] 25)).alloc (.cells #[.slice none 0 0, .int .i64 0, .slice none 0 0] 25)).alloc (.cells #[.int .i64 0] 3)) 22 #[.slice a zs.length cap]
  simp only [World.size_alloc] at B1 B2 B3
  have hB0 : Below w.heap.size w ((((w.alloc (.cells #[.slice none 0 0, .int .i64 0, .slice none 0 0] 25)).alloc (.cells #[.slice none 0 0, .int .i64 0, .slice none 0 0] 25)).alloc (.cells #[.int .i64 0] 3)).alloc (.cells #[.slice a zs.length cap] 22)) :=
    ((((Below.refl _ w).alloc (Nat.le_refl _) _).alloc (by simp) _).alloc (by simp; omega) _).alloc (by simp; omega) _
  refine wpIn_rangeFunc_ownG rfl (by decide) (gf := 28) (lb := #[.pointer (some ⟨w.heap.size + 1 + 1 + 1, 0, none⟩)]) rfl trivial (enters_of Try.func28 (by kernel_rfl) rfl)
    (back_stops Fence.wide _ trivial rfl (by decide) (w.heap.size + 1 + 1 + 1) w.heap.size _ zs _ (by simp) (by simp; omega) (by simpa using B3.cell 0) (HI.out.below hB0)
      (fun b off len c e hpos => by
        rcases HI.out with ⟨a', c', e', hzs⟩ | ⟨b', off', c', e', h0, hl, hc⟩
        · rw [e] at e'; injection e' with _ e2 _; omega
        · rw [e] at e'; injection e' with e1 _ _; injection e1 with e1; injection e1 with e1
          have := World.block_lt_of_cell? _ _ (hc.out 0 h0)
          simp at this; omega)) Keep.trans (Keep.put (by simp; omega) (by simp)) (Below.refl _ _) (fun _ => rfl)
    (fun pre W => OfI w.heap.size pre W ∧ Below w.heap.size w W)
    (fun _ _ _ => False)
    (OwnFrom.and (Own.from (OfI_own w.heap.size) _) (ownFrom_below (Nat.le_refl _) (by simp; omega)))
    (fun _ _ _ _ _ hs _ _ => hs)
    ⟨⟨_, _, (B1.alloc _).alloc _, B2.alloc _, ((B0.alloc _).alloc _).alloc _, World.ownsRow_nil _ _ _ _, World.ownsRow_nil _ _ _ _, fun g h _ => by simp [Value.ownBlock] at h, by simp⟩, hB0⟩
    (fun x => { tmps := #[.slice a zs.length cap, undef, .pointer (some ⟨w.heap.size, 0, none⟩), .int .i64 0, .pointer (some ⟨w.heap.size + 1, 0, none⟩), .pointer (some ⟨w.heap.size + 1 + 1, 0, none⟩), .int .i64 (x.1.val : Int), .int .i64 x.2, .slice a zs.length cap, .int .i64 (zs.length : Int), .bool true, .bool false, undef, .slice a zs.length cap, .bool true, .bool false, undef, .agg #[.slice none 0 0, .int .i64 0, .slice none 0 0], .slice a zs.length cap, .func (.func 28) #[] #[.pointer (some ⟨w.heap.size + 1 + 1 + 1, 0, none⟩)], .int .i64 (x.1.val : Int), .int .i64 x.2, undef, undef, undef, undef, undef, undef, undef, undef, undef, undef, undef, undef, undef, undef, undef, undef, undef, undef, undef, undef, undef, undef, undef, undef, undef, undef, undef, undef, undef, undef, undef, undef, undef, undef, undef, undef, undef, undef], defers := [] }) ?assign ?body ?done ?stop
  case assign =>
    intro l x W K hK
    gi_wp2
    exact hK
  case body =>
    rintro l pre x W ⟨⟨sL, sB, c⟩, hB⟩ hlt
    have hbd := ofold_bd pre
    have hln := ofold_len pre
    have hfin := ofold_snoc pre x
    obtain ⟨⟨i, hi4⟩, v⟩ := x
    generalize ofold pre = S at *
    obtain ⟨vs, bs, z, lt⟩ := S
    have HF := Lib.hid hfin
    clear hfin
    simp only at c hbd hln
    obtain ⟨aL, cL, rfl⟩ := own_form c.oL
    obtain ⟨aB, cB, rfl⟩ := own_form c.oB
    obtain ⟨z1, z2, l1, l2, bl⟩ := hbd
    have hsz := hB.size
    have hWsz := c.sz
    have x0 : W.cell? ⟨w.heap.size + 1, 0, none⟩ = some (.slice aL vs.length cL) := by simpa using c.x.cell 0
    have x1 : W.cell? ⟨w.heap.size + 1, 1, none⟩ = some (.int .i64 z) := by simpa using c.x.cell 1
    have x2 : W.cell? ⟨w.heap.size + 1, 2, none⟩ = some (.slice aB bs.length cB) := by simpa using c.x.cell 2
    have y0 : W.cell? ⟨w.heap.size + 1 + 1, 0, none⟩ = some (.int .i64 lt) := by simpa using c.l.cell 0
    have p0 := c.x.frozen 0
    have p1 := c.x.frozen 1
    have p2 := c.x.frozen 2
    have q0 := c.l.frozen 0
    have HLN := Lib.hid hln
    have hll : vs.length ≤ 16 := by omega
    clear hln
    by_cases hvs : vs = []
    · subst hvs
      have oL := c.oL
      simp only [List.length_nil, List.map_nil] at x0 oL HLN
      have C := Lib.hid c
      clear c
      gi_wp2_with (gi_at_builtin; refine wpListIn_append_at _ rfl (.tmp 44) (.tmp 46) 22 rfl (w.heap.size + 1 + 1 + 1 + 1) 3 i0 (.int .i64 0) 1 8 Try.underlying22 hi hz0 hz1 hz2 rfl (by decide) (.slice aL 0 cL) 0 [] rfl (oL.alloc _) ⟨W.heap.size, 0, none⟩ 1 1 [.int .i64 v] rfl rfl (cell_one_new _ _ _) (by simp [Value.oneCell']) (by simp [maxLen]) (by decide) (by simp; omega) ?_; intro v1 w1 hown1 hgrow1 hat1; obtain ⟨⟨c0, f0, c1, f1⟩, HH⟩ := C.out.appL v (i : Int) _ v1 w1 hown1 hgrow1 hat1; obtain ⟨g1, cap1, rfl⟩ := ownsRow_succ hown1)
      obtain ⟨k1, k2, k3⟩ := HH.out
      exact ⟨k1.from _, k2, ⟨_, _, by rw [HF.out]; exact k3⟩, hB.trans k2.1⟩
    · have hpos : 0 < vs.length := List.length_pos_iff.2 hvs
      have oB := c.oB
      have C := Lib.hid c
      clear c
      have HV := Lib.hid hvs
      clear hvs
      gi_wp2_with (first
        | (gi_at_builtin; refine wpListIn_append_at _ rfl (.tmp 27) (.tmp 32) 22 rfl (w.heap.size + 1 + 1 + 1 + 1) 3 i0 (.int .i64 0) 1 8 Try.underlying22 hi hz0 hz1 hz2 rfl (by decide) (.slice aB bs.length cB) bs.length (bs.map (Value.int .i64)) rfl (oB.alloc _) ⟨W.heap.size, 0, none⟩ 1 1 [.int .i64 (lt - (i : Int) - 1)] rfl rfl (cell_one_new _ _ _) (by simp [Value.oneCell']) (by simp [maxLen]; omega) (by omega) (by simp; omega) ?_; intro v1 w1 hown1 hgrow1 hat1; obtain ⟨⟨c0, f0, c1, f1, c2, f2, c3, f3⟩, s1, HH⟩ := C.out.appB (lt - (i : Int) - 1) (z + lt - (i : Int) - 1) _ v1 w1 hown1 hgrow1 hat1; obtain ⟨g1, cap1, rfl⟩ := ownsRow_succ hown1)
        | (gi_at_builtin; refine wpListIn_append_at _ rfl (.tmp 44) (.tmp 46) 22 rfl (w.heap.size + 1 + 1 + 1 + 1) 3 i0 (.int .i64 0) 1 8 Try.underlying22 hi hz0 hz1 hz2 rfl (by decide) (.slice aL vs.length cL) vs.length (vs.map (Value.int .i64)) rfl (HH.out.2.2.oL.alloc _) ⟨w1.heap.size, 0, none⟩ 1 1 [.int .i64 v] rfl rfl (cell_one_at _ _ _ _ (by simp [World.setCell])) (by simp [Value.oneCell']) (by simp [maxLen]; omega) (by omega) (by simp [World.setCell]; omega) ?_; intro v2 w2 hown2 hgrow2 hat2; obtain ⟨⟨d0, e0, d1, e1⟩, HH2⟩ := HH.out.2.2.appL v (i : Int) _ v2 w2 hown2 hgrow2 hat2; obtain ⟨g2, cap2, rfl⟩ := ownsRow_succ hown2))
      obtain ⟨k1, k2, k3⟩ := HH.out
      obtain ⟨m1, m2, m3⟩ := HH2.out
      refine ⟨(k1.trans m1).from _, k2.trans m2, ⟨.slice (some ⟨g2, 0, none⟩) (vs.length + 1) cap2, .slice (some ⟨g1, 0, none⟩) (bs.length + 1) cap1, ?_⟩, hB.trans (k2.trans m2).1⟩
      rw [HF.out]
      simp only [ostp, HV.out, if_false]
      exact m3
  case done =>
    rintro D ys W hD rfl ⟨⟨sL, sB, c⟩, hB⟩ hK
    obtain ⟨e1, e2, e3, e4⟩ := ofold_prs 0 zs (by omega)
    rw [e1, e2, e3] at c
    generalize (ofold (prs 0 zs)).2.2.2 = lt at *
    have hll := lev_length_le zs
    have hbl := bef_length zs
    have HZ := Lib.hid (show zer zs = if lev zs = [] then 0 else (gap zs : Int) + (bef zs).sum from rfl)
    have hsum : 0 ≤ zer zs ∧ zer zs ≤ 16 := ⟨zer_nonneg zs, by have := (poss_of zs).z1; omega⟩
    have H4 := Lib.hid e4
    clear e1 e2 e3 e4
    obtain ⟨aL, cL, rfl⟩ := own_form c.oL
    obtain ⟨aB, cB, rfl⟩ := own_form c.oB
    have hWsz := c.sz
    have x0 : W.cell? ⟨w.heap.size + 1, 0, none⟩ = some (.slice aL (lev zs).length cL) := by simpa using c.x.cell 0
    have x1 : W.cell? ⟨w.heap.size + 1, 1, none⟩ = some (.int .i64 (bef zs).sum) := by simpa using c.x.cell 1
    have x2 : W.cell? ⟨w.heap.size + 1, 2, none⟩ = some (.slice aB (bef zs).length cB) := by simpa using c.x.cell 2
    have y0 : W.cell? ⟨w.heap.size + 1 + 1, 0, none⟩ = some (.int .i64 lt) := by simpa using c.l.cell 0
    have z0 : W.cell? ⟨w.heap.size, 0, none⟩ = some (.slice none 0 0) := by simpa using c.r.cell 0
    have z1 : W.cell? ⟨w.heap.size, 1, none⟩ = some (.int .i64 0) := by simpa using c.r.cell 1
    have z2 : W.cell? ⟨w.heap.size, 2, none⟩ = some (.slice none 0 0) := by simpa using c.r.cell 2
    have p1 := c.x.frozen 1
    have q0 := c.r.frozen 0
    have q1 := c.r.frozen 1
    have q2 := c.r.frozen 2
    have C := Lib.hid c
    clear c
    have hbl' := Lib.hid hbl
    clear hbl
    by_cases hvs : lev zs = []
    · have hl0 : (lev zs).length = 0 := by rw [hvs]; rfl
      have HV := Lib.hid hvs
      rw [hl0] at x0
      clear hvs hl0
      have HC := Lib.hid (C.out.ret hB (D := D) (by simp at hD; omega) hK (by omega) (by have := hbl'.out; omega))
      gi_wp2
      obtain ⟨k0, r0, r1, r2, i1, i2, bb⟩ := HC.out
      rw [show (lev zs).length = 0 from by rw [HV.out]; rfl] at k0 r0 r1 r2 i1 i2 bb
      refine ⟨by simp, .inl ⟨_, _, rfl, run_takeDeferred k0, ?_⟩⟩
      have hz0 : zer zs = (bef zs).sum := by rw [HZ.out, if_pos HV.out, (bef_of_none zs HV.out).1]; rfl
      refine ⟨_, ?_, _, _, rfl, i1, i2, bb⟩
      simp [results, Try.f11, go_sem, r0, r1, r2, hz0]
    · have hpos : 0 < (lev zs).length := List.length_pos_iff.2 hvs
      have hlt := H4.out hvs
      have hz0 := zer_gap zs hvs
      have hs0 := sum_nonneg _ (bef_nonneg zs)
      have hl0 : 0 ≤ lt := by omega
      have hl1 : lt ≤ 16 := by omega
      have hs1 : (bef zs).sum ≤ 16 := by omega
      have hzl := Lib.hid (show zer zs = (bef zs).sum + lt from by omega)
      have hB2 : Below w.heap.size w (W.setCell ⟨w.heap.size + 1, 1, none⟩ (.int .i64 ((bef zs).sum + lt))) := hB.setCell (by simp) _
      have hK2 : (W.setCell ⟨w.heap.size + 1, 1, none⟩ (.int .i64 ((bef zs).sum + lt))).heap[D]? = some (.deferred (some [])) := (Below.heap_setCell _ _ _ _ (by simp at hD ⊢; omega)).trans hK
      have HC := Lib.hid ((C.out.setZ ((bef zs).sum + lt)).ret hB2 (D := D) (by simp at hD; omega) hK2 (by omega) (by have := hbl'.out; omega))
      clear hvs hlt hz0 hB2 hK2
      gi_wp2
      obtain ⟨k0, r0, r1, r2, i1, i2, bb⟩ := HC.out
      refine ⟨by simp, .inl ⟨_, _, rfl, run_takeDeferred k0, ?_⟩⟩
      have hz0 := hzl.out
      refine ⟨_, ?_, _, _, rfl, i1, i2, bb⟩
      simp [results, Try.f11, go_sem, r0, r1, r2, hz0]
  case stop =>
    rintro D c pre W _ _ h _
    exact h.elim
end Go.Proofs.Ytcaglhodkdfncaa
