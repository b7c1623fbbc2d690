/- Contract of ctx's Copy; State and See at any index. -/
import Derived.Test.YtomeiofieheggaaSee2
import Derived.Laws.Tables
namespace Go.Proofs.Ytomeiofieheggaa
open Go.RowKit
set_option linter.unusedSimpArgs false
set_option linter.unusedVariables false

theorem fold_at : ∀ (l : List Value) (k : Nat) (z : Array Value), k + l.length ≤ z.size →
    ((l.zipIdx k).foldl (fun cs (x : Value × Nat) => cs.setIfInBounds (0 + x.2) x.1) z).size = z.size ∧
    ∀ i, ((l.zipIdx k).foldl (fun cs (x : Value × Nat) => cs.setIfInBounds (0 + x.2) x.1) z)[i]? = if k ≤ i ∧ i < k + l.length then l[i - k]? else z[i]?
  | [], k, z, h => ⟨rfl, fun i => by simp; intro a b; omega⟩
  | c :: l, k, z, h => by
    simp only [List.length_cons] at h
    obtain ⟨h1, h2⟩ := fold_at l (k + 1) (z.setIfInBounds (0 + k) c) (by simp; omega)
    simp only [List.zipIdx_cons, List.foldl_cons]
    refine ⟨by rw [h1]; simp, fun i => ?_⟩
    rw [h2 i]
    by_cases e : i = k
    · subst e
      rw [if_neg (by omega), if_pos (by simp)]
      simp [Array.getElem?_setIfInBounds, show i < z.size by omega]
    · by_cases e2 : k + 1 ≤ i ∧ i < k + 1 + l.length
      · rw [if_pos e2, if_pos (by simp; omega)]
        obtain ⟨j, rfl⟩ : ∃ j, i = k + 1 + j := ⟨i - (k + 1), by omega⟩
        rw [show k + 1 + j - (k + 1) = j by omega, show k + 1 + j - k = j + 1 by omega]
        simp
      · rw [if_neg e2, if_neg (by simp; omega)]
        rw [Array.getElem?_setIfInBounds, if_neg (by omega)]

theorem fold_all (cs z : Array Value) (h : cs.size = z.size) : cs.zipIdx.foldl (fun a (x : Value × Nat) => a.setIfInBounds (0 + x.2) x.1) z = cs := by
  obtain ⟨h1, h2⟩ := fold_at cs.toList 0 z (by simp; omega)
  rw [← Array.foldl_toList, Array.toList_zipIdx]
  apply Array.ext_getElem?
  intro i
  rw [h2 i]
  by_cases hi : i < cs.size
  · rw [if_pos (by simp; omega)]; simp
  · rw [if_neg (by simp; omega), Array.getElem?_eq_none (by omega), Array.getElem?_eq_none (by omega)]

theorem info57 : (Try.prog.info? 57).map (fun i => i.zero) = some (some (.agg zs)) := by kernel_rfl
theorem info55 : (Try.prog.info? 55).map (·.size) = some 572 := by kernel_rfl
theorem build57 (cs : Array Value) (h : cs.size = 572) (w : World) : (Instr.build 57 #[(0, .agg cs)]).run Try.prog w = .ok (.agg cs) w := by
  refine run_build w 57 _ _ ?_
  have h57 := info57
  have h55 := info55
  obtain ⟨i57, e57, z57⟩ := Option.map_eq_some_iff.1 h57
  obtain ⟨i55, e55, z55⟩ := Option.map_eq_some_iff.1 h55
  have hu := Try.underlying57
  unfold Program.built
  rw [e57, hu]
  simp only [z57]
  simp [e55, z55, Instr.fill, Value.cells, h, zs_size]
  have := fold_all cs zs (by rw [h, zs_size])
  simpa [h] using this

theorem copy_nil (w : World) :
    Calls Try.prog 20 #[.pointer none] w fun e w' => e = .returned (.pointer none) ∧ Below w.heap.size w w' := by
  go_enter Try.func20, Try.ntmps20
  go_wp2
  go_ret
  exact ⟨rfl, Below.refl _ _⟩

theorem Tab.new {w : World} {cs : Array Value} {S : Nat → Int × Int} (h : cs.size = 572) (hc : ∀ i, i < 286 → cs[i * 2]? = some (.int .u8 (S i).1) ∧ cs[i * 2 + 1]? = some (.int .u8 (S i).2)) : Tab (w.alloc (.cells cs 57)) w.heap.size S :=
  ⟨cs, Box.new _ _ _, h, hc⟩

set_option maxRecDepth 100000 in
set_option maxHeartbeats 4000000 in
theorem copy_yes (g : Nat) (S : Nat → Int × Int) (w : World) (hT : Tab w g S) :
    Calls Try.prog 20 #[.pointer (some ⟨g, 0, none⟩)] w fun e w' => e = .returned (.pointer (some ⟨w.heap.size, 0, none⟩)) ∧ Tab w' w.heap.size S ∧ Tab w' g S ∧ Below w.heap.size w w' := by
  have T0 := Lib.hid hT
  obtain ⟨cs, hb, hs, hc⟩ := hT
  have HC := Lib.hid hc
  have hz := zero57
  have hzs : zs.size = 572 := zs_size
  have hf : Array.foldl (fun cs (x : Value × Nat) => cs.setIfInBounds x.snd x.fst) zs cs.zipIdx 0 cs.size = cs := by
    have := fold_all cs zs (by rw [hs, zs_size]); simpa [hs] using this
  have hr : w.rangeAt g 0 cs.toList := by
    have := World.rangeAt_of_block hb 0 572
    rwa [show cs.extract 0 (0 + 572) = cs from by rw [Nat.zero_add, ← hs]; simp] at this
  have hi : (Try.prog.info? 55).map (·.size) = some cs.toList.length := by rw [info55]; simp [hs]
  have HS := Lib.hid hs
  rw [hs] at hf
  clear hc hb
  generalize zs = Z at *
  have hu := Try.underlying55
  go_enter Try.func20, Try.ntmps20
  go_wp2_with (refine wpList_load_mid rfl 55 (.tmp 7) rfl g 0 rfl cs.toList _ hr hu rfl hi ?_; simp only [Array.toArray_toList]; clear hr hi hu)
  go_ret
  exact ⟨rfl, Tab.new HS.out HC.out, T0.out.alloc _, (Below.refl _ _).alloc (Nat.le_refl _) _⟩

end Go.Proofs.Ytomeiofieheggaa
