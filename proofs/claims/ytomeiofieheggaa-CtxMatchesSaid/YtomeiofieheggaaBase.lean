/- Contracts of prob.Check, prob.Next and of the reference's. -/
import Derived.Test.YtomeiofieheggaaProg
import Derived.WalkKit
import Derived.Below
import Derived.Lib.Hide
import Derived.Handy
import Derived.Deep.QuietTactic
import Derived.BigQuiet
import Derived.Deep.MidRow
import Derived.WalkLawsBesides
import Derived.Deep.Cut
namespace Go.Proofs.Ytomeiofieheggaa
open Go.RowKit

/-- Block g is just these cells of type t, none of them frozen. -/
def Box (w : World) (g : Nat) (t : TypeId) (cs : Array Value) : Prop := w.heap[g]? = some (.cells cs t (0, 0))

theorem Box.lt {w : World} {g : Nat} {t : TypeId} {cs : Array Value} (h : Box w g t cs) : g < w.heap.size := (Array.getElem?_eq_some_iff.1 h).1
theorem Box.cell {w : World} {g : Nat} {t : TypeId} {cs : Array Value} (h : Box w g t cs) (i : Nat) : w.cell? ⟨g, i, none⟩ = cs[i]? := cell_of_row w g i cs t (0, 0) h
theorem Box.frozen {w : World} {g : Nat} {t : TypeId} {cs : Array Value} (h : Box w g t cs) (i : Nat) : w.frozen? ⟨g, i, none⟩ = false := by
  have h' : w.heap[g]? = _ := h
  simp [World.frozen?, h']
theorem Box.new (w : World) (t : TypeId) (cs : Array Value) : Box (w.alloc (.cells cs t)) w.heap.size t cs := heap_alloc_new w _
theorem Box.alloc {w : World} {g : Nat} {t : TypeId} {cs : Array Value} (h : Box w g t cs) (o : Obj) : Box (w.alloc o) g t cs := (Below.heap_alloc w o g h.lt).trans h
theorem Box.set {w : World} {g : Nat} {t : TypeId} {cs : Array Value} (h : Box w g t cs) (i : Nat) (u : Value) : Box (w.setCell ⟨g, i, none⟩ u) g t (cs.setIfInBounds i u) := by
  have h' : w.heap[g]? = _ := h
  unfold Box
  simp [World.setCell, Array.getElem?_modify, h']
theorem Box.far {w : World} {g : Nat} {t : TypeId} {cs : Array Value} (h : Box w g t cs) {p : Addr} (hp : g ≠ p.block) (u : Value) : Box (w.setCell p u) g t cs := (Below.heap_setCell w p u g hp).trans h
theorem Box.below {w w' : World} {g : Nat} {t : TypeId} {cs : Array Value} {B : Nat} (h : Box w g t cs) (hb : Below B w w') (hg : g < B) : Box w' g t cs := (hb.block g hg).trans h
theorem Box.drew {w : World} {g : Nat} {t : TypeId} {cs : Array Value} (h : Box w g t cs) (n : Nat) : Box (w.drewN n) g t cs := h
theorem _root_.Go.RowKit.Below.drewN {B : Nat} {a w : World} (h : Below B a w) (n : Nat) : Below B a (w.drewN n) := ⟨h.os, h.tape, h.output, h.size, h.block⟩

theorem bcell {W w1 : World} {B : Nat} (hb : Below B W w1) : (∀ b o, b < B → w1.cell? ⟨b, o, none⟩ = W.cell? ⟨b, o, none⟩) ∧ (∀ b o, b < B → w1.frozen? ⟨b, o, none⟩ = W.frozen? ⟨b, o, none⟩) :=
  ⟨fun b o h => hb.cell (p := ⟨b, o, none⟩) h, fun b o h => hb.frozen (p := ⟨b, o, none⟩) h⟩

/-- A state. -/
def st (p m : Int) : Value := .agg #[.int .u8 p, .int .u8 m]

/-- Is a state valid? -/
def okS (p m : Int) : Bool := decide (p ≤ 62) && decide (m ≤ 1)

theorem check_yes (p m : Int) (h1 : p ≤ 62) (h2 : m ≤ 1) (w : World) (g : Nat) (hg : g = 18 ∨ g = 27) :
    Calls Try.prog g #[.agg #[.int .u8 p, .int .u8 m]] w fun e w' => e = .returned (.int .i64 0) ∧ Below w.heap.size w w' := by
  rcases hg with rfl | rfl
  all_goals
    first | go_enter Try.func18, Try.ntmps18 | go_enter Try.func27, Try.ntmps27
    go_wp2
    go_ret
    exact ⟨rfl, by repeat (first | exact Below.refl _ _ | refine Below.setCell ?_ (by simp) _ | refine Below.alloc ?_ (by simp) _)⟩

theorem check_no (p m : Int) (h : 62 < p ∨ 1 < m) (w : World) (g : Nat) (hg : g = 18 ∨ g = 27) :
    Calls Try.prog g #[.agg #[.int .u8 p, .int .u8 m]] w fun e w' => e = .returned (.int .i64 3) ∧ Below w.heap.size w w' := by
  have h' : 62 < p ∨ (¬ 62 < p ∧ 1 < m) := by omega
  clear h
  rcases hg with rfl | rfl
  all_goals
    rcases h' with h | ⟨h1, h2⟩
    all_goals
      first | go_enter Try.func18, Try.ntmps18 | go_enter Try.func27, Try.ntmps27
      go_wp2
      go_ret
      exact ⟨rfl, by repeat (first | exact Below.refl _ _ | refine Below.setCell ?_ (by simp) _ | refine Below.alloc ?_ (by simp) _)⟩

end Go.Proofs.Ytomeiofieheggaa
