/- Contracts of the functions of the seat place: grid. -/
import Derived.Test.YtmackljhomameaaProg
import Derived.WalkKit
import Derived.Below
import Derived.Lib.Hide
import Derived.Handy
import Derived.Deep.QuietTactic
import Derived.BigQuiet
import Derived.Deep.MidRow
import Derived.WalkLawsBesides
import Derived.Deep.Cut
namespace Go.Proofs.Ytmackljhomameaa
open Go.RowKit

/-- Block g is just these cells of type t, none of them frozen. -/
def Box (w : World) (g : Nat) (t : TypeId) (cs : Array Value) : Prop := w.heap[g]? = some (.cells cs t (0, 0))

theorem Box.lt {w : World} {g : Nat} {t : TypeId} {cs : Array Value} (h : Box w g t cs) : g < w.heap.size := (Array.getElem?_eq_some_iff.1 h).1
theorem Box.cell {w : World} {g : Nat} {t : TypeId} {cs : Array Value} (h : Box w g t cs) (i : Nat) : w.cell? ⟨g, i, none⟩ = cs[i]? := cell_of_row w g i cs t (0, 0) h
theorem Box.frozen {w : World} {g : Nat} {t : TypeId} {cs : Array Value} (h : Box w g t cs) (i : Nat) : w.frozen? ⟨g, i, none⟩ = false := by
  have h' : w.heap[g]? = _ := h
  simp [World.frozen?, h']
theorem Box.new (w : World) (t : TypeId) (cs : Array Value) : Box (w.alloc (.cells cs t)) w.heap.size t cs := heap_alloc_new w _
theorem Box.alloc {w : World} {g : Nat} {t : TypeId} {cs : Array Value} (h : Box w g t cs) (o : Obj) : Box (w.alloc o) g t cs := (Below.heap_alloc w o g h.lt).trans h
theorem Box.set {w : World} {g : Nat} {t : TypeId} {cs : Array Value} (h : Box w g t cs) (i : Nat) (u : Value) : Box (w.setCell ⟨g, i, none⟩ u) g t (cs.setIfInBounds i u) := by
  have h' : w.heap[g]? = _ := h
  unfold Box
  simp [World.setCell, Array.getElem?_modify, h']
theorem Box.far {w : World} {g : Nat} {t : TypeId} {cs : Array Value} (h : Box w g t cs) {p : Addr} (hp : g ≠ p.block) (u : Value) : Box (w.setCell p u) g t cs := (Below.heap_setCell w p u g hp).trans h
theorem Box.below {w w' : World} {g : Nat} {t : TypeId} {cs : Array Value} {B : Nat} (h : Box w g t cs) (hb : Below B w w') (hg : g < B) : Box w' g t cs := (hb.block g hg).trans h
theorem Box.drew {w : World} {g : Nat} {t : TypeId} {cs : Array Value} (h : Box w g t cs) (n : Nat) : Box (w.drewN n) g t cs := h
theorem _root_.Go.RowKit.Below.drewN {B : Nat} {a w : World} (h : Below B a w) (n : Nat) : Below B a (w.drewN n) := ⟨h.os, h.tape, h.output, h.size, h.block⟩

theorem bcell {W w1 : World} {B : Nat} (hb : Below B W w1) : (∀ b o, b < B → w1.cell? ⟨b, o, none⟩ = W.cell? ⟨b, o, none⟩) ∧ (∀ b o, b < B → w1.frozen? ⟨b, o, none⟩ = W.frozen? ⟨b, o, none⟩) :=
  ⟨fun b o h => hb.cell (p := ⟨b, o, none⟩) h, fun b o h => hb.frozen (p := ⟨b, o, none⟩) h⟩

/-- The columns and rows of the first k blocks, one behind the other, and zeros. -/
def gx (n : Nat) (k : Nat) : Int := if n = 4 then k % 2 else k % 2 + k / 4 % 2 * 2
def gy (n : Nat) (k : Nat) : Int := if n = 4 then k / 2 else k / 2 % 2 + k / 8 * 2
def gcs (n k : Nat) : List Int := (List.range k).flatMap (fun j => [gx n j, gy n j]) ++ List.replicate (32 - 2 * k) 0

theorem pairs_length (n k : Nat) : ((List.range k).flatMap (fun j => [gx n j, gy n j])).length = 2 * k := by
  induction k with
  | zero => rfl
  | succ k ih => rw [List.range_succ, List.flatMap_append, List.length_append, ih]; simp; omega

theorem gcs_succ (n k : Nat) (hk : k < 16) : ((gcs n k).set (2 * k) (gx n k)).set (2 * k + 1) (gy n k) = gcs n (k + 1) := by
  have hl := pairs_length n k
  unfold gcs
  rw [show 32 - 2 * k = (32 - 2 * (k + 1)) + 1 + 1 from by omega, List.replicate_succ, List.replicate_succ, List.range_succ, List.flatMap_append]
  rw [List.set_append_right _ _ (by omega), hl, Nat.sub_self, List.set_cons_zero, List.set_append_right _ _ (by omega), hl]
  simp [show 2 * k + 1 - 2 * k = 1 from by omega]

theorem gcs_length (n k : Nat) (hk : k ≤ 16) : (gcs n k).length = 32 := by
  unfold gcs
  rw [List.length_append, pairs_length]
  simp; omega

def cellsI (l : List Int) : Array Value := (l.map (Value.int .i64)).toArray

theorem cellsI_set (l : List Int) (i : Nat) (x : Int) : (cellsI l).setIfInBounds i (.int .i64 x) = cellsI (l.set i x) := by simp [cellsI]
theorem cellsI_get (l : List Int) (i : Nat) (h : i < l.length) : (cellsI l)[i]? = some (.int .i64 (l[i]?.getD 0)) := by simp [cellsI, h]

theorem cellsI_one (l : List Int) : (cellsI l).all (·.oneCell') = true := by
  refine all_oneCell_toArray (fun v hv => ?_)
  obtain ⟨x, _, rfl⟩ := List.mem_map.1 hv
  rfl

theorem box_all_from {g : Nat} {t : TypeId} : ∀ (vs olds pre : List Value) (w : World), Box w g t (pre ++ olds).toArray → olds.length = vs.length → Box (w.setCells g pre.length vs) g t (pre ++ vs).toArray
  | [], olds, pre, w, h, hl => by
    have : olds = [] := List.length_eq_zero_iff.1 (by simpa using hl)
    subst this; exact h
  | v :: vs, [], pre, w, h, hl => by simp at hl
  | v :: vs, o :: olds, pre, w, h, hl => by
    have h1 := h.set pre.length v
    have e : (pre ++ o :: olds).toArray.setIfInBounds pre.length v = ((pre ++ [v]) ++ olds).toArray := by simp
    rw [e] at h1
    have h2 := box_all_from vs olds (pre ++ [v]) _ h1 (by simpa using hl)
    simpa [World.setCells] using h2

theorem box_all {w : World} {g : Nat} {t : TypeId} {l : List Int} (h : Box w g t (cellsI l)) (vs : List Int) (hl : vs.length = l.length) : Box (w.setCells g 0 (cellsI vs).toList) g t (cellsI vs) := by
  have := box_all_from (g := g) (t := t) (vs.map (Value.int .i64)) (l.map (Value.int .i64)) [] w (by simpa [cellsI] using h) (by simp [hl])
  simpa [cellsI] using this

theorem below_cells {B : Nat} {a w : World} (h : Below B a w) (g : Nat) (hg : B ≤ g) : ∀ (vs : List Value) (o : Nat), Below B a (w.setCells g o vs) := by
  intro vs
  induction vs generalizing w with
  | nil => intro o; exact h
  | cons v vs ih => intro o; exact ih (h.setCell (p := ⟨g, o, none⟩) hg v) (o + 1)

set_option maxRecDepth 100000 in
set_option maxHeartbeats 4000000 in
theorem grid16 (w : World) :
    Calls Try.prog 27 #[.int .i64 16] w fun e w' => e = .returned (.agg (cellsI (gcs 16 16))) ∧ Below w.heap.size w w' := by
  have B0 := Box.new w 45 (cellsI (gcs 16 0))
  have B1 := Box.new (w.alloc (.cells (cellsI (gcs 16 0)) 45)) 45 (cellsI (gcs 16 0))
  rw [World.size_alloc] at B1
  have HB0 := Lib.hid (B0.alloc (.cells (cellsI (gcs 16 0)) 45))
  have HB1 := Lib.hid B1
  have HBL := Lib.hid (((Below.refl w.heap.size w).alloc (Nat.le_refl _) (.cells (cellsI (gcs 16 0)) 45)).alloc (by simp) (.cells (cellsI (gcs 16 0)) 45))
  clear B0 B1
  go_enter Try.func27, Try.ntmps27
  go_wp2
  go_loopw [6] (fun i wr => ∃ k : Nat, k ≤ 16 ∧ i = .int .i64 k ∧ Box wr (w.heap.size + 1) 45 (cellsI (gcs 16 k)) ∧ Box wr w.heap.size 45 (cellsI (gcs 16 0)) ∧ Below w.heap.size w wr) (fun i _ => 16 - (intOf i).toNat)
  case atStart => exact ⟨0, Nat.zero_le _, rfl, HB1.out, HB0.out, HBL.out⟩
  case round =>
    obtain ⟨k, hk, rfl, hx, hr, hB⟩ := hrel
    by_cases hlt : k < 16
    · have hl := gcs_length 16 k (by omega)
      obtain ⟨u, hu⟩ : ∃ u, wr.cell? ⟨w.heap.size + 1, k * 2, none⟩ = some (.int .i64 u) := ⟨_, (hx.cell _).trans (cellsI_get _ _ (by omega))⟩
      obtain ⟨v, hv⟩ : ∃ v, wr.cell? ⟨w.heap.size + 1, k * 2 + 1, none⟩ = some (.int .i64 v) := ⟨_, (hx.cell _).trans (cellsI_get _ _ (by omega))⟩
      have hfu := hx.frozen (k * 2)
      have hfv := hx.frozen (k * 2 + 1)
      have hk0 : (0 : Int) ≤ (k : Int) := by omega
      have hk1 : (k : Int) < 16 := by omega
      have hs := (hx.set (k * 2) (.int .i64 (gx 16 k))).set (k * 2 + 1) (.int .i64 (gy 16 k))
      rw [cellsI_set, cellsI_set, show k * 2 = 2 * k from by omega, gcs_succ 16 k (by omega), show 2 * k = k * 2 from by omega, show gx 16 k = (k : Int) % 2 + (k : Int) / 4 % 2 * 2 from rfl, show gy 16 k = (k : Int) / 2 % 2 + (k : Int) / 8 * 2 from rfl] at hs
      have HS := Lib.hid hs
      have HR := Lib.hid ((hr.far (p := ⟨w.heap.size + 1, k * 2, none⟩) (by simp) (.int .i64 ((k : Int) % 2 + (k : Int) / 4 % 2 * 2))).far (p := ⟨w.heap.size + 1, k * 2 + 1, none⟩) (by simp) (.int .i64 ((k : Int) / 2 % 2 + (k : Int) / 8 * 2)))
      have HB2 := Lib.hid ((hB.setCell (p := ⟨w.heap.size + 1, k * 2, none⟩) (by simp) (.int .i64 ((k : Int) % 2 + (k : Int) / 4 % 2 * 2))).setCell (p := ⟨w.heap.size + 1, k * 2 + 1, none⟩) (by simp) (.int .i64 ((k : Int) / 2 % 2 + (k : Int) / 8 * 2)))
      clear hs hx hl hr hB
      go_wp2
      go_roundw
      case rel => exact ⟨k + 1, by omega, by go_num, HS.out, HR.out, HB2.out⟩
      case measure => simp [intOf]; omega
    · obtain rfl : k = 16 := by omega
      have hl := gcs_length 16 16 (by omega)
      have hcs : (cellsI (gcs 16 16)).size = 32 := by simp [cellsI, hl]
      have hthere : wr.there w.heap.size 0 (cellsI (gcs 16 16)).size := fun j hj => ⟨by rw [Nat.zero_add, hr.cell j, cellsI_get _ _ (by rw [gcs_length 16 0 (by omega)]; omega)]; rfl, hr.frozen _⟩
      have hone := cellsI_one (gcs 16 16)
      have hfin := Lib.hid (box_all hr (gcs 16 16) (by rw [hl, gcs_length 16 0 (by omega)]))
      have hbel := Lib.hid (below_cells hB w.heap.size (Nat.le_refl _) (cellsI (gcs 16 16)).toList 0)
      have HX := Lib.hid hx
      have HTH := Lib.hid hthere
      have HCS := Lib.hid hcs
      have hi32 : (Try.prog.info? 45).map (·.size) = some (cellsI (gcs 16 16)).size := by rw [HCS.out]; kernel_rfl
      clear hx hr hB hthere hcs hl
      obtain ⟨C, hC⟩ : ∃ C, cellsI (gcs 16 16) = C := ⟨_, rfl⟩
      rw [hC] at hone hfin hbel HX HTH HCS hi32
      have HC := Lib.hid hC
      clear hC
      go_upto_region 9 with (fail)
      go_wp2_with (first
        | (refine wpList_load_row rfl 45 (.tmp 3) rfl (w.heap.size + 1) rfl 45 C (0, 0) _ HX.out Try.underlying45 rfl hi32 ?_)
        | (refine wpList_store_mid rfl 45 (.tmp 2) (.tmp 36) rfl w.heap.size 0 C rfl rfl HTH.out hi32 hone ?_))
      refine bodyPost_ret (results_cell_row rfl _ _ w.heap.size 45 C (0, 0) _ rfl hfin.out Try.underlying45 rfl hi32) rfl ?_
      exact ⟨by rw [HC.out], hbel.out⟩

set_option maxRecDepth 100000 in
set_option maxHeartbeats 4000000 in
theorem grid4 (w : World) :
    Calls Try.prog 27 #[.int .i64 4] w fun e w' => e = .returned (.agg (cellsI (gcs 4 4))) ∧ Below w.heap.size w w' := by
  have B0 := Box.new w 45 (cellsI (gcs 4 0))
  have B1 := Box.new (w.alloc (.cells (cellsI (gcs 4 0)) 45)) 45 (cellsI (gcs 4 0))
  rw [World.size_alloc] at B1
  have HB0 := Lib.hid (B0.alloc (.cells (cellsI (gcs 4 0)) 45))
  have HB1 := Lib.hid B1
  have HBL := Lib.hid (((Below.refl w.heap.size w).alloc (Nat.le_refl _) (.cells (cellsI (gcs 4 0)) 45)).alloc (by simp) (.cells (cellsI (gcs 4 0)) 45))
  clear B0 B1
  go_enter Try.func27, Try.ntmps27
  go_wp2
  go_loopw [6] (fun i wr => ∃ k : Nat, k ≤ 4 ∧ i = .int .i64 k ∧ Box wr (w.heap.size + 1) 45 (cellsI (gcs 4 k)) ∧ Box wr w.heap.size 45 (cellsI (gcs 4 0)) ∧ Below w.heap.size w wr) (fun i _ => 4 - (intOf i).toNat)
  case atStart => exact ⟨0, Nat.zero_le _, rfl, HB1.out, HB0.out, HBL.out⟩
  case round =>
    obtain ⟨k, hk, rfl, hx, hr, hB⟩ := hrel
    by_cases hlt : k < 4
    · have hl := gcs_length 4 k (by omega)
      obtain ⟨u, hu⟩ : ∃ u, wr.cell? ⟨w.heap.size + 1, k * 2, none⟩ = some (.int .i64 u) := ⟨_, (hx.cell _).trans (cellsI_get _ _ (by omega))⟩
      obtain ⟨v, hv⟩ : ∃ v, wr.cell? ⟨w.heap.size + 1, k * 2 + 1, none⟩ = some (.int .i64 v) := ⟨_, (hx.cell _).trans (cellsI_get _ _ (by omega))⟩
      have hfu := hx.frozen (k * 2)
      have hfv := hx.frozen (k * 2 + 1)
      have hk0 : (0 : Int) ≤ (k : Int) := by omega
      have hk1 : (k : Int) < 4 := by omega
      have hs := (hx.set (k * 2) (.int .i64 (gx 4 k))).set (k * 2 + 1) (.int .i64 (gy 4 k))
      rw [cellsI_set, cellsI_set, show k * 2 = 2 * k from by omega, gcs_succ 4 k (by omega), show 2 * k = k * 2 from by omega, show gx 4 k = (k : Int) % 2 from rfl, show gy 4 k = (k : Int) / 2 from rfl] at hs
      have HS := Lib.hid hs
      have HR := Lib.hid ((hr.far (p := ⟨w.heap.size + 1, k * 2, none⟩) (by simp) (.int .i64 ((k : Int) % 2))).far (p := ⟨w.heap.size + 1, k * 2 + 1, none⟩) (by simp) (.int .i64 ((k : Int) / 2)))
      have HB2 := Lib.hid ((hB.setCell (p := ⟨w.heap.size + 1, k * 2, none⟩) (by simp) (.int .i64 ((k : Int) % 2))).setCell (p := ⟨w.heap.size + 1, k * 2 + 1, none⟩) (by simp) (.int .i64 ((k : Int) / 2)))
      clear hs hx hl hr hB
      go_wp2
      go_roundw
      case rel => exact ⟨k + 1, by omega, by go_num, HS.out, HR.out, HB2.out⟩
      case measure => simp [intOf]; omega
    · obtain rfl : k = 4 := by omega
      have hl := gcs_length 4 4 (by omega)
      have hcs : (cellsI (gcs 4 4)).size = 32 := by simp [cellsI, hl]
      have hthere : wr.there w.heap.size 0 (cellsI (gcs 4 4)).size := fun j hj => ⟨by rw [Nat.zero_add, hr.cell j, cellsI_get _ _ (by rw [gcs_length 4 0 (by omega)]; omega)]; rfl, hr.frozen _⟩
      have hone := cellsI_one (gcs 4 4)
      have hfin := Lib.hid (box_all hr (gcs 4 4) (by rw [hl, gcs_length 4 0 (by omega)]))
      have hbel := Lib.hid (below_cells hB w.heap.size (Nat.le_refl _) (cellsI (gcs 4 4)).toList 0)
      have HX := Lib.hid hx
      have HTH := Lib.hid hthere
      have HCS := Lib.hid hcs
      have hi32 : (Try.prog.info? 45).map (·.size) = some (cellsI (gcs 4 4)).size := by rw [HCS.out]; kernel_rfl
      clear hx hr hB hthere hcs hl
      obtain ⟨C, hC⟩ : ∃ C, cellsI (gcs 4 4) = C := ⟨_, rfl⟩
      rw [hC] at hone hfin hbel HX HTH HCS hi32
      have HC := Lib.hid hC
      clear hC
      go_upto_region 9 with (fail)
      go_wp2_with (first
        | (refine wpList_load_row rfl 45 (.tmp 3) rfl (w.heap.size + 1) rfl 45 C (0, 0) _ HX.out Try.underlying45 rfl hi32 ?_)
        | (refine wpList_store_mid rfl 45 (.tmp 2) (.tmp 36) rfl w.heap.size 0 C rfl rfl HTH.out hi32 hone ?_))
      refine bodyPost_ret (results_cell_row rfl _ _ w.heap.size 45 C (0, 0) _ rfl hfin.out Try.underlying45 rfl hi32) rfl ?_
      exact ⟨by rw [HC.out], hbel.out⟩

end Go.Proofs.Ytmackljhomameaa
