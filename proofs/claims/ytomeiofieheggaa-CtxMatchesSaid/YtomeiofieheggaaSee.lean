/- Contracts of New's refusal, State and See. -/
import Derived.Test.YtomeiofieheggaaNew
import Derived.Deep.RegionHeld3
namespace Go.Proofs.Ytomeiofieheggaa
open Go.RowKit
set_option linter.unusedSimpArgs false
set_option linter.unusedVariables false

set_option maxRecDepth 100000 in
set_option maxHeartbeats 4000000 in
theorem new_no (c q : Int) (h : ¬ (0 ≤ c ∧ c ≤ 3 ∧ 0 ≤ q ∧ q ≤ 51)) (w : World) :
    Calls Try.prog 14 #[.int .i64 c, .int .i64 q] w fun e w' => e = .returned (.tuple #[.pointer none, .int .i64 3]) ∧ Below w.heap.size w w' := by
  have hz := zero57
  have HI := Lib.hid (init_any 0 c q)
  have he : eI 0 c q = 3 := by unfold eI; rw [if_neg (by unfold inI; omega)]
  rw [he] at HI
  clear he h
  generalize zs = Z at *
  generalize pI 0 c q = x at *
  generalize bI 0 c q = y at *
  go_enter Try.func14, Try.ntmps14
  go_wp2_with (fail)
  clear hz
  go_loopw [12] (fun v wr => v = .int .i64 0 ∧ Below w.heap.size w wr) (fun v _ => 0)
  case atStart => exact ⟨rfl, (Below.refl _ _).alloc (Nat.le_refl _) _⟩
  case round =>
    obtain ⟨rfl, hB⟩ := hrel
    have B0 := Lib.hid hB
    clear hB
    go_wp2_with (go_at_call 10; refine (HI.out _).mono ?_; rintro e w1 ⟨rfl, b1⟩; have B1 := Lib.hid (B0.out.trans (b1.mono B0.out.size)); clear b1)
    go_ret2
    exact ⟨rfl, B1.out.alloc B1.out.size _⟩

theorem state_nil (i : Int) (w : World) :
    Calls Try.prog 16 #[.pointer none, .int .i64 i] w fun e w' => e = .returned (.tuple #[.agg #[.int .u8 0, .int .u8 0], .int .i64 1]) ∧ Below w.heap.size w w' := by
  go_enter Try.func16, Try.ntmps16
  go_wp2
  refine bodyPost_ret (v := .tuple #[.agg #[.int .u8 0, .int .u8 0], .int .i64 1]) (by simp [results, Try.f16, go_sem]) rfl ⟨rfl, ?_⟩
  repeat (first | exact Below.refl _ _ | refine Below.setCell ?_ (by simp) _ | refine Below.alloc ?_ (by simp) _)

theorem state_no (g : Nat) (i : Int) (h : i < 0 ∨ 286 ≤ i) (w : World) :
    Calls Try.prog 16 #[.pointer (some ⟨g, 0, none⟩), .int .i64 i] w fun e w' => e = .returned (.tuple #[.agg #[.int .u8 0, .int .u8 0], .int .i64 3]) ∧ Below w.heap.size w w' := by
  have h' : i < 0 ∨ (¬ i < 0 ∧ 286 ≤ i) := by omega
  clear h
  rcases h' with h | ⟨h1, h2⟩
  all_goals
    go_enter Try.func16, Try.ntmps16
    go_wp2
    refine bodyPost_ret (v := .tuple #[.agg #[.int .u8 0, .int .u8 0], .int .i64 3]) (by simp [results, Try.f16, go_sem]) rfl ⟨rfl, ?_⟩
    repeat (first | exact Below.refl _ _ | refine Below.setCell ?_ (by simp) _ | refine Below.alloc ?_ (by simp) _)

set_option maxRecDepth 100000 in
theorem state_yes (g : Nat) (S : Nat → Int × Int) (k : Nat) (hk : k < 286) (w : World) (hT : Tab w g S) :
    Calls Try.prog 16 #[.pointer (some ⟨g, 0, none⟩), .int .i64 (k : Int)] w fun e w' => e = .returned (.tuple #[.agg #[.int .u8 (S k).1, .int .u8 (S k).2], .int .i64 0]) ∧ Below w.heap.size w w' := by
  obtain ⟨d0, d1, d2, d3⟩ := hT.cells k hk
  have hlt := hT.lt
  generalize (S k).1 = x at *
  generalize (S k).2 = y at *
  clear hT
  have k1 : (k : Int) < 286 := by omega
  have k2 : ¬ (286 : Int) ≤ k := by omega
  go_enter Try.func16, Try.ntmps16
  go_wp2
  refine bodyPost_ret (v := .tuple #[.agg #[.int .u8 x, .int .u8 y], .int .i64 0]) (by simp [results, Try.f16, go_sem]) rfl ⟨rfl, ?_⟩
  repeat (first | exact Below.refl _ _ | refine Below.setCell ?_ (by simp) _ | refine Below.alloc ?_ (by simp) _)

/-- Only block g of what there was may have turned. -/
structure Far (g : Nat) (w w' : World) : Prop where
  os : w'.os = w.os
  tape : w'.tape = w.tape
  output : w'.output = w.output
  size : w.heap.size ≤ w'.heap.size
  block : ∀ k, k < w.heap.size → k ≠ g → w'.heap[k]? = w.heap[k]?

theorem Far.of_below {g : Nat} {w w' : World} (h : Below w.heap.size w w') : Far g w w' := ⟨h.os, h.tape, h.output, h.size, fun k hk _ => h.block k hk⟩
theorem Far.refl (g : Nat) (w : World) : Far g w w := Far.of_below (Below.refl _ _)
theorem Far.trans {g : Nat} {a b c : World} (h : Far g a b) (k : Far g b c) : Far g a c :=
  ⟨k.os.trans h.os, k.tape.trans h.tape, k.output.trans h.output, Nat.le_trans h.size k.size, fun i hi hn => (k.block i (Nat.lt_of_lt_of_le hi h.size) hn).trans (h.block i hi hn)⟩
theorem Far.below {g B : Nat} {w w' : World} (h : Far g w w') (hB : B ≤ g) (hs : B ≤ w.heap.size) : Below B w w' :=
  ⟨h.os, h.tape, h.output, h.size, fun k hk => h.block k (by omega) (by omega)⟩
theorem Far.box {g g' : Nat} {w w' : World} {t : TypeId} {cs : Array Value} (h : Far g w w') (hb : Box w g' t cs) (hn : g' ≠ g) : Box w' g' t cs := (h.block g' hb.lt hn).trans hb
theorem Far.tab {g g' : Nat} {w w' : World} {S : Nat → Int × Int} (h : Far g w w') (hb : Tab w g' S) (hn : g' ≠ g) : Tab w' g' S := by
  obtain ⟨cs, h1, h2⟩ := hb
  exact ⟨cs, h.box h1 hn, h2⟩
theorem Far.set {g : Nat} {a w : World} (h : Far g a w) (o : Nat) (v : Value) : Far g a (w.setCell ⟨g, o, none⟩ v) :=
  ⟨h.os, h.tape, h.output, by simpa using h.size, fun k hk hn => (Below.heap_setCell w ⟨g, o, none⟩ v k hn).trans (h.block k hk hn)⟩
theorem Far.setNew {g : Nat} {a w : World} (h : Far g a w) {p : Addr} (hp : a.heap.size ≤ p.block) (v : Value) : Far g a (w.setCell p v) :=
  ⟨h.os, h.tape, h.output, by simpa using h.size, fun k hk hn => (Below.heap_setCell w p v k (by omega)).trans (h.block k hk hn)⟩
theorem Far.alloc {g : Nat} {a w : World} (h : Far g a w) (o : Obj) : Far g a (w.alloc o) :=
  h.trans (Far.of_below ((Below.refl _ w).alloc (Nat.le_refl _) o))
theorem Far.drewN {g : Nat} {a w : World} (h : Far g a w) (n : Nat) : Far g a (w.drewN n) := ⟨h.os, h.tape, h.output, h.size, h.block⟩

end Go.Proofs.Ytomeiofieheggaa
