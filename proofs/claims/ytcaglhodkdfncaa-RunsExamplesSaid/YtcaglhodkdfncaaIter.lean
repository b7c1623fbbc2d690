/- The contract of the function value that runs.backwards returns: it yields the coefficients that are not 0, and their numbers, from the last one on. -/
import Derived.RangeFuncNested
import Derived.RangeFuncBox
import Derived.RangeFuncBound
import Derived.RangeFuncCalls
import Derived.RangeFuncLeaves
import Derived.Shelf.Abstract
import Derived.Shelf.RegionOpen
import Derived.WalkKit
import Derived.OwnWalkIn
import Derived.TacticsInMore
import Derived.LoopNIn
import Derived.LoopIn
import Derived.Maps.AppendAt
import Derived.Test.YtcaglhodkdfncaaPlain
import Derived.Test.YtcaglhodkdfncaaBase
namespace Go.Proofs.Ytcaglhodkdfncaa
open Go.RowKit Go.Shelf

attribute [local go_sem] Oper.semAt_some

abbrev Pr := Fin 4096 × Int
abbrev encP (x : Pr) : Array Value := #[.int .i64 (x.1.val : Int), .int .i64 x.2]

/-- The pairs of a rest of the block that begins at number k. -/
def prs : Nat → List Int → List Pr
  | _, [] => []
  | k, v :: r => prs (k + 1) r ++ (if v = 0 then [] else [(Fin.ofNat 4096 k, v)])

theorem prs_length : ∀ (k : Nat) (r : List Int), (prs k r).length ≤ r.length
  | _, [] => by simp [prs]
  | k, v :: r => by have := prs_length (k + 1) r; simp only [prs, List.length_append, List.length_cons]; split <;> simp <;> omega

theorem prs_zero {zs : List Int} {j : Nat} (hj : j < zs.length) (h : zs[j]?.getD 0 = 0) : prs j (zs.drop j) = prs (j + 1) (zs.drop (j + 1)) := by
  rw [List.drop_eq_getElem_cons hj]
  have : zs[j] = 0 := by simpa [hj] using h
  simp [prs, this]
theorem prs_next {zs : List Int} {j : Nat} {v : Int} (hj : j < zs.length) (h : zs[j]?.getD 0 = v) (hv : v ≠ 0) : prs j (zs.drop j) = prs (j + 1) (zs.drop (j + 1)) ++ [(Fin.ofNat 4096 j, v)] := by
  rw [List.drop_eq_getElem_cons hj]
  have : zs[j] = v := by simpa [hj] using h
  simp [prs, this, hv]

/-- What a round must keep: whatever lies below n₀, and the box of the captured slice. -/
def Keep (n₀ Bs : Nat) (W W' : World) : Prop := Below n₀ W W' ∧ W'.heap[Bs]? = W.heap[Bs]?
theorem Keep.refl (n₀ Bs : Nat) (W : World) : Keep n₀ Bs W W := ⟨Below.refl _ _, rfl⟩
theorem Keep.trans {n₀ Bs : Nat} {A B C : World} (h : Keep n₀ Bs A B) (k : Keep n₀ Bs B C) : Keep n₀ Bs A C := ⟨h.1.trans k.1, k.2.trans h.2⟩
theorem Keep.put {n₀ Bs k : Nat} (h0 : n₀ ≤ k) (h1 : Bs < k) (W : World) (l : Nat) (o o' : Obj) (hl : k ≤ l) (ho : W.heap[l]? = some o) (_ : o.isCells = false) (_ : o.isWalk = false) : Keep n₀ Bs W (W.putObj l o') :=
  ⟨(Below.refl n₀ W).grown (grownBy_putObj' W l o') (by have := (Array.getElem?_eq_some_iff.1 ho).1; omega) (fun j e => by cases e; omega), World.putObj_heap_other (by omega)⟩

set_option maxRecDepth 100000 in
set_option maxHeartbeats 2000000 in
theorem back_in (F : Fence) (n : Nat) (h28 : F.fn 28) (hro : F.round = none) (hn : 1 ≤ n) (l Bs n₀ b off cap : Nat) (zs : List Int) (h0 : 0 < zs.length) (hl : zs.length ≤ 4096) (hb : b < n₀) (J Jx : List Pr → World → Prop)
    (hY : ∀ pre x W, J pre W → pre.length < zs.length → YieldAt F (n - 1) Try.prog l (encP x) W fun e W' =>
      (e = .returned (.bool true) ∧ J (pre ++ [x]) W' ∧ Keep n₀ Bs W W') ∨ (e = .returned (.bool false) ∧ Jx (pre ++ [x]) W'))
    (W : World) (hBs : W.cell? ⟨Bs, 0, none⟩ = some (.slice (some ⟨b, off, none⟩) zs.length cap)) (hc : Hid (∀ j, j < zs.length → W.cell? ⟨b, off + j, none⟩ = some (.int .i64 (zs[j]?.getD 0)))) (hJ0 : J [] W) :
    CallsIn F n Try.prog 28 #[.func (.yield l) #[] #[], .pointer (some ⟨Bs, 0, none⟩)] W fun e W' => (∃ v, e = .returned v) ∧
      ((∃ ys, ys = prs 0 zs ∧ J ys W') ∨ (∃ pre, True ∧ Jx pre W')) := by
  have HY := Lib.hid hY
  have HB := Lib.hid hBs
  clear hY hBs
  have hBs := HB.out
  refine callsIn_of_wp Try.func28 rfl h28 ?_ hro
  simp only [Try.ntmps28, List.size_toArray, List.length_cons, List.length_nil, Nat.reduceAdd, Nat.reduceSub, Array.replicate_succ, Array.replicate_zero, List.push_toArray, List.append_toArray, List.nil_append, List.cons_append]
  gi_wp2
  clear hBs
  gi_loopw [3] (fun i wr => ∃ k : Nat, k ≤ zs.length ∧ i = .int .i64 ((k : Int) - 1) ∧ J (prs k (zs.drop k)) wr ∧ Keep n₀ Bs W wr)
    (fun i _ => (intOf i + 1).toNat)
  case atStart => exact ⟨zs.length, Nat.le_refl _, rfl, by simpa [prs] using hJ0, Keep.refl _ _ _⟩
  case round =>
    obtain ⟨k, hk, rfl, hJs, hnx⟩ := hrel
    have hBx : wr.cell? ⟨Bs, 0, none⟩ = some (.slice (some ⟨b, off, none⟩) zs.length cap) := (World.cell?_of_block (w := W) (a := ⟨Bs, 0, none⟩) hnx.2).trans HB.out
    cases k with
    | zero =>
      gi_wp2
      go_end0
      exact ⟨⟨_, rfl⟩, .inl ⟨_, rfl, by simpa using hJs⟩⟩
    | succ j =>
      have hj : j < zs.length := by omega
      rw [show (((j + 1 : Nat) : Int) - 1) = (j : Int) from by omega]
      obtain ⟨v, hcx0, HV⟩ := named hc (k := j) hj
      have hcx := (hnx.1.cell (p := ⟨b, off + j, none⟩) hb).trans hcx0
      clear hcx0
      by_cases hv : v = 0
      · have e1 : (v != 0) = false := by simp [hv]
        have HP := Lib.hid (prs_zero hj (HV.out.trans hv))
        clear hv
        gi_wp2
        refine ⟨fun _ h => (by cases h), ?_⟩
        gi_wp2
        go_roundw
        case rel => exact ⟨j, by omega, rfl, by rw [HP.out]; exact hJs, hnx⟩
        case measure => simp [intOf]
      · have e1 : (v != 0) = true := by simp [hv]
        have HP := Lib.hid (prs_next hj HV.out hv)
        have HL := prs_length (j + 1) (zs.drop (j + 1))
        obtain ⟨fn, tmps, assign, body, hy, hR⟩ := HY.out _ (Fin.ofNat 4096 j, v) wr hJs (by simp at HL; omega)
        have hjm : j % 4096 = j := Nat.mod_eq_of_lt (by omega)
        dsimp only [encP, Fin.ofNat] at hy
        rw [hjm] at hy
        clear HL hjm hv
        gi_wp2
        refine hR.mono ?_
        rintro e W3 (⟨rfl, hJ3, hk3⟩ | ⟨rfl, hJx3⟩)
        · gi_wp2
          go_roundw
          case rel => exact ⟨j, by omega, rfl, by rw [HP.out]; exact hJ3, hnx.trans hk3⟩
          case measure => simp [intOf]
        · gi_wp2
          refine bodyPost_ret (results_none rfl _ _ _) rfl ?_
          exact ⟨⟨_, rfl⟩, .inr ⟨_, trivial, hJx3⟩⟩

set_option maxRecDepth 100000 in
set_option maxHeartbeats 1000000 in
theorem back_none_in (F : Fence) (n : Nat) (h28 : F.fn 28) (hro : F.round = none) (l Bs : Nat) (a : Option Addr) (cap : Nat) (J : List Pr → World → Prop) (W : World) (hBs : W.cell? ⟨Bs, 0, none⟩ = some (.slice a 0 cap)) (hJ0 : J [] W) :
    CallsIn F n Try.prog 28 #[.func (.yield l) #[] #[], .pointer (some ⟨Bs, 0, none⟩)] W fun e W' => (∃ v, e = .returned v) ∧ J [] W' := by
  refine callsIn_of_wp Try.func28 rfl h28 ?_ hro
  simp only [Try.ntmps28, List.size_toArray, List.length_cons, List.length_nil, Nat.reduceAdd, Nat.reduceSub, Array.replicate_succ, Array.replicate_zero, List.push_toArray, List.append_toArray, List.nil_append, List.cons_append]
  gi_wp2
  gi_loopw [3] (fun i wr => i = .int .i64 (-1) ∧ J [] wr) (fun _ _ => 0)
  case atStart => exact ⟨rfl, hJ0⟩
  case round =>
    obtain ⟨rfl, hJs⟩ := hrel
    gi_wp2
    go_end0
    exact ⟨⟨_, rfl⟩, hJs⟩

set_option maxHeartbeats 1000000 in
/-- backwards: the slice value is boxed; the function value captures the box. -/
theorem backwards_in (F : Fence) (n : Nat) (h24 : F.fn 24) (hro : F.round = none) (a : Option Addr) (len cap : Nat) (w : World) :
    CallsIn F n Try.prog 24 #[.slice a len cap] w fun e w' => e = .returned (.func (.func 28) #[] #[.pointer (some ⟨w.heap.size, 0, none⟩)]) ∧ w' = w.alloc (.cells #[.slice a len cap] 22) := by
  refine callsIn_of_wp Try.func24 rfl h24 ?_ hro
  simp only [Try.ntmps24, List.size_toArray, List.length_cons, List.length_nil, Nat.reduceAdd, Nat.reduceSub, Array.replicate_succ, Array.replicate_zero, List.push_toArray, List.append_toArray, List.nil_append, List.cons_append]
  gi_wp2
  go_ret
  exact ⟨rfl, rfl⟩

theorem back_stops (F : Fence) (n : Nat) (h28 : F.fn 28) (hro : F.round = none) (hn : 1 ≤ n) (Bs n₀ : Nat) (sv : Value) (zs : List Int) (w : World) (hBs : Bs < w.heap.size) (hn₀ : n₀ ≤ w.heap.size)
    (hc : w.cell? ⟨Bs, 0, none⟩ = some sv) (hI : Ints w sv zs) (hlow : ∀ b off len cap, sv = .slice (some ⟨b, off, none⟩) len cap → 0 < len → b < n₀) :
    SeqStopsK F n Try.prog 28 #[.pointer (some ⟨Bs, 0, none⟩)] encP (Keep n₀ Bs) (fun ys => ys = prs 0 zs) (fun _ => True) zs.length w := fun l J Jx W hW _ _ hY h0 => by
  have hc' := (hW.cell (p := ⟨Bs, 0, none⟩) hBs).trans hc
  rcases hI with ⟨a, cap, rfl, rfl⟩ | ⟨b, off, cap, rfl, hpos, hl, hcs⟩
  · exact (back_none_in F n h28 hro l Bs a cap J W hc' h0).mono fun e W' ⟨he, hj⟩ => ⟨he, .inl ⟨_, rfl, hj⟩⟩
  · have hb := hlow b off _ cap rfl hpos
    exact back_in F n h28 hro hn l Bs n₀ b off cap zs hpos hl hb J Jx hY W hc' (fun j hj => (hW.cell (p := ⟨b, off + j, none⟩) (by simp; omega)).trans (hcs j hj)) h0
end Go.Proofs.Ytcaglhodkdfncaa
