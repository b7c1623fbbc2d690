/- Two tables and the reference's two: what a bit and a copy leave. -/
import Derived.Test.YtomeiofieheggaaRNew
namespace Go.Proofs.Ytomeiofieheggaa
open Go.RowKit
set_option linter.unusedVariables false

/-- t and u are the tables that were made, x and y those that see. -/
structure Pairs (H : Nat) (w : World) (gt h0 r0 gx hy ry : Nat) (St Sx : Nat → Int × Int) : Prop where
  tx : Tab w gx Sx
  ty : RTab w hy ry Sx
  tt : Tab w gt St
  tu : RTab w h0 r0 St
  gdx : Good Sx
  gdt : Good St
  x1 : gx ≠ hy ∧ gx ≠ ry ∧ gx ≠ h0 ∧ gx ≠ r0
  x2 : gt ≠ hy ∧ gt ≠ ry ∧ gt ≠ h0 ∧ gt ≠ r0
  mode : (gx = gt ∧ hy = h0 ∧ ry = r0 ∧ Sx = St) ∨ (gx ≠ gt ∧ hy ≠ h0 ∧ ry ≠ r0 ∧ hy ≠ r0 ∧ ry ≠ h0)
  bd : H ≤ gt ∧ H ≤ h0 ∧ H ≤ r0 ∧ H ≤ gx ∧ H ≤ hy ∧ H ≤ ry

theorem Pairs.same {H : Nat} {w w' : World} {gt h0 r0 gx hy ry : Nat} {St Sx : Nat → Int × Int} (p : Pairs H w gt h0 r0 gx hy ry St Sx) (hb : Below w.heap.size w w') : Pairs H w' gt h0 r0 gx hy ry St Sx :=
  ⟨p.tx.below hb p.tx.lt, p.ty.same hb, p.tt.below hb p.tt.lt, p.tu.same hb, p.gdx, p.gdt, p.x1, p.x2, p.mode, p.bd⟩

theorem Pairs.drew {H : Nat} {w : World} {gt h0 r0 gx hy ry : Nat} {St Sx : Nat → Int × Int} (p : Pairs H w gt h0 r0 gx hy ry St Sx) : Pairs H w.drew gt h0 r0 gx hy ry St Sx := p.same (Below.drew (Below.refl _ _))

theorem Pairs.start {H : Nat} {w : World} {gt h0 r0 : Nat} {S : Nat → Int × Int} (t : Tab w gt S) (u : RTab w h0 r0 S) (g : Good S) (h1 : gt ≠ h0) (h2 : gt ≠ r0) (b : H ≤ gt ∧ H ≤ h0 ∧ H ≤ r0) : Pairs H w gt h0 r0 gt h0 r0 S S :=
  ⟨t, u, t, u, g, g, ⟨h1, h2, h1, h2⟩, ⟨h1, h2, h1, h2⟩, .inl ⟨rfl, rfl, rfl, rfl⟩, b.1, b.2.1, b.2.2, b.1, b.2.1, b.2.2⟩

theorem Pairs.see {H : Nat} {w w1 w2 : World} {gt h0 r0 gx hy ry : Nat} {St Sx S' : Nat → Int × Int} (p : Pairs H w gt h0 r0 gx hy ry St Sx) (f1 : Far gx w w1) (t1 : Tab w1 gx S') (f2 : Far ry w1 w2) (t2 : RTab w2 hy ry S') (g : Good S') :
    ∃ St', Pairs H w2 gt h0 r0 gx hy ry St' S' := by
  obtain ⟨a1, a2, a3, a4⟩ := p.x1
  obtain ⟨b1, b2, b3, b4⟩ := p.x2
  have tx2 : Tab w2 gx S' := f2.tab t1 a2
  rcases p.mode with ⟨rfl, rfl, rfl, rfl⟩ | ⟨m1, m2, m3, m4, m5⟩
  · exact ⟨S', tx2, t2, tx2, t2, g, g, p.x1, p.x2, .inl ⟨rfl, rfl, rfl, rfl⟩, p.bd⟩
  · exact ⟨St, tx2, t2, f2.tab (f1.tab p.tt (Ne.symm m1)) b2, RTab.far f2 (RTab.far f1 p.tu (Ne.symm a3) (Ne.symm a4)) (Ne.symm m5) (Ne.symm m3), g, p.gdt, p.x1, p.x2, .inr ⟨m1, m2, m3, m4, m5⟩, p.bd⟩

theorem Pairs.copy {H : Nat} {w w1 w2 : World} {gt h0 r0 gx hy ry h' r' : Nat} {St Sx : Nat → Int × Int} (p : Pairs H w gt h0 r0 gx hy ry St Sx) (t1 : Tab w1 w.heap.size St) (b1 : Below w.heap.size w w1) (t2 : RTab w2 h' r' St) (b2 : Below w1.heap.size w1 w2) (hh : w1.heap.size ≤ h') (hr : w1.heap.size ≤ r') :
    Pairs H w2 gt h0 r0 w.heap.size h' r' St St := by
  have l1 := p.tt.lt
  have l2 := p.tu.lt.1
  have l3 := p.tu.lt.2.1
  have l4 := t1.lt
  have hH := p.bd
  have s1 := b1.size
  exact ⟨t1.below b2 l4, t2, (p.tt.below b1 l1).below b2 (by omega), (p.tu.same b1).same b2, p.gdt, p.gdt, ⟨by omega, by omega, by omega, by omega⟩, ⟨by omega, by omega, p.x2.2.2⟩, .inr ⟨by omega, by omega, by omega, by omega, by omega⟩, by omega⟩

end Go.Proofs.Ytomeiofieheggaa
