/- Tables: their cells. -/
import Derived.Test.YtomeiofieheggaaInit
namespace Go.Proofs.Ytomeiofieheggaa
open Go.RowKit

def zs : Array Value := (List.replicate 572 (Value.int .u8 0)).toArray
theorem zero57 (w : World) : (zeroValue 57).run Try.prog w = .ok (.agg zs) w := by kernel_rfl

/-- Block g is a table: its cells are the states S. -/
def Tab (w : World) (g : Nat) (S : Nat → Int × Int) : Prop :=
  ∃ cs, Box w g 57 cs ∧ cs.size = 572 ∧ ∀ i, i < 286 → cs[i * 2]? = some (.int .u8 (S i).1) ∧ cs[i * 2 + 1]? = some (.int .u8 (S i).2)

def upd (S : Nat → Int × Int) (k : Nat) (x : Int × Int) : Nat → Int × Int := fun i => if i = k then x else S i

theorem Tab.lt {w : World} {g : Nat} {S : Nat → Int × Int} (h : Tab w g S) : g < w.heap.size := by obtain ⟨cs, hb, _⟩ := h; exact hb.lt
theorem Tab.cells {w : World} {g : Nat} {S : Nat → Int × Int} (h : Tab w g S) (k : Nat) (hk : k < 286) :
    w.cell? ⟨g, k * 2, none⟩ = some (.int .u8 (S k).1) ∧ w.cell? ⟨g, k * 2 + 1, none⟩ = some (.int .u8 (S k).2) ∧ w.frozen? ⟨g, k * 2, none⟩ = false ∧ w.frozen? ⟨g, k * 2 + 1, none⟩ = false := by
  obtain ⟨cs, hb, hn, hc⟩ := h
  exact ⟨(hb.cell _).trans (hc k hk).1, (hb.cell _).trans (hc k hk).2, hb.frozen _, hb.frozen _⟩
theorem Tab.below {w w' : World} {g B : Nat} {S : Nat → Int × Int} (h : Tab w g S) (hb : Below B w w') (hg : g < B) : Tab w' g S := by
  obtain ⟨cs, h1, h2⟩ := h; exact ⟨cs, h1.below hb hg, h2⟩
theorem Tab.alloc {w : World} {g : Nat} {S : Nat → Int × Int} (h : Tab w g S) (o : Obj) : Tab (w.alloc o) g S := by
  obtain ⟨cs, h1, h2⟩ := h; exact ⟨cs, h1.alloc o, h2⟩
theorem Tab.drewN {w : World} {g : Nat} {S : Nat → Int × Int} (h : Tab w g S) (n : Nat) : Tab (w.drewN n) g S := h
theorem Tab.far {w : World} {g : Nat} {S : Nat → Int × Int} (h : Tab w g S) {p : Addr} (hp : g ≠ p.block) (u : Value) : Tab (w.setCell p u) g S := by
  obtain ⟨cs, h1, h2⟩ := h; exact ⟨cs, h1.far hp u, h2⟩
theorem Tab.ext {w : World} {g : Nat} {S T : Nat → Int × Int} (h : Tab w g S) (e : ∀ i, i < 286 → S i = T i) : Tab w g T := by
  obtain ⟨cs, h1, h2, h3⟩ := h
  exact ⟨cs, h1, h2, fun i hi => by rw [← e i hi]; exact h3 i hi⟩
theorem Tab.set {w : World} {g : Nat} {S : Nat → Int × Int} (h : Tab w g S) (k : Nat) (hk : k < 286) (p m : Int) :
    Tab ((w.setCell ⟨g, k * 2, none⟩ (.int .u8 p)).setCell ⟨g, k * 2 + 1, none⟩ (.int .u8 m)) g (upd S k (p, m)) := by
  obtain ⟨cs, h1, h2, h3⟩ := h
  refine ⟨_, (h1.set _ _).set _ _, by simp [h2], fun i hi => ?_⟩
  obtain ⟨a, b⟩ := h3 i hi
  by_cases e : i = k
  · subst e
    simp [upd, Array.getElem?_setIfInBounds, h2]
    omega
  · simp [upd, e, Array.getElem?_setIfInBounds, h2]
    refine ⟨?_, ?_⟩
    · rw [if_neg (by omega), if_neg (by omega)]; exact a
    · rw [if_neg (by omega), if_neg (by omega)]; exact b
theorem zs_size : zs.size = 572 := by rw [zs, List.size_toArray, List.length_replicate]
theorem zs_at (j : Nat) (h : j < 572) : zs[j]? = some (.int .u8 0) := by
  rw [zs, List.getElem?_toArray, List.getElem?_replicate, if_pos h]
theorem Tab.zero {w : World} {g : Nat} (h : Box w g 57 zs) : Tab w g (fun _ => (0, 0)) :=
  ⟨zs, h, zs_size, fun i hi => ⟨zs_at _ (by omega), zs_at _ (by omega)⟩⟩

end Go.Proofs.Ytomeiofieheggaa
