/- The reference's New and Copy. -/
import Derived.Test.YtomeiofieheggaaRTab
import Derived.Laws.Tables
import Derived.Deep.RegionLaw
namespace Go.Proofs.Ytomeiofieheggaa
open Go.RowKit
set_option linter.unusedSimpArgs false
set_option linter.unusedVariables false

theorem info23 : (Try.prog.info? 23).map (fun i => (i.zero, i.size, i.bytes)) = some (some (.agg #[.int .u8 0, .int .u8 0]), 2, 2) := by kernel_rfl

theorem Box.grown {w w' : World} {g : Nat} {t : TypeId} {cs : Array Value} {row : Option Nat} (h : Box w g t cs) (hb : w.grownBy w' row) (hg : some g ≠ row) : Box w' g t cs := (hb.block g h.lt hg).trans h
theorem own_base {w : World} {base n : Nat} {e : TypeId} {size : Nat} {v : Value} {xs : List Value} (h : w.ownsRow base e size v n xs) {g : Nat} (hg : g < base) : some g ≠ v.ownBlock := fun e => by
  have := (h.lt g e.symm).1; omega
theorem own_form {w : World} {base n : Nat} {e : TypeId} {size : Nat} {v : Value} {xs : List Value} (h : w.ownsRow base e size v n xs) : ∃ a cap, v = .slice a n cap := by
  rcases h.2 with ⟨rfl, rfl⟩ | ⟨g, cap, cur, rfl, _⟩
  · exact ⟨none, 0, rfl⟩
  · exact ⟨_, cap, rfl⟩
theorem own_below {w w' : World} {base n : Nat} {e : TypeId} {size : Nat} {v : Value} {xs : List Value} (h : w.ownsRow base e size v n xs) (hb : Below w.heap.size w w') : w'.ownsRow base e size v n xs := by
  refine ⟨h.1, ?_⟩
  rcases h.2 with h1 | ⟨g, cap, cur, e1, h2, h3, h4⟩
  · exact .inl h1
  · exact .inr ⟨g, cap, cur, e1, h2, (hb.block g (Array.getElem?_eq_some_iff.1 h3).1).trans h3, h4⟩

/-- What an append to the table's row leaves. -/
theorem app_law {H : Nat} {w W : World} {sv : Value} {n : Nat} {xs news : List Value} (hx : Box W H 61 #[sv]) (ho : W.ownsRow (H + 1) 23 2 sv n xs) (hB : Below H w W) (tmp : Obj) :
    Hid (∀ (w1 : World) (g1 cap1 : Nat), w1.ownsRow (H + 1) 23 2 (.slice (some ⟨g1, 0, none⟩) (n + 1) cap1) (n + 1) (xs ++ news) → ((W.alloc tmp).drew).grownBy w1 sv.ownBlock →
      w1.cell? ⟨H, 0, none⟩ = some sv ∧ w1.frozen? ⟨H, 0, none⟩ = false ∧ Hid (Box (w1.setCell ⟨H, 0, none⟩ (.slice (some ⟨g1, 0, none⟩) (n + 1) cap1)) H 61 #[.slice (some ⟨g1, 0, none⟩) (n + 1) cap1] ∧
        (w1.setCell ⟨H, 0, none⟩ (.slice (some ⟨g1, 0, none⟩) (n + 1) cap1)).ownsRow (H + 1) 23 2 (.slice (some ⟨g1, 0, none⟩) (n + 1) cap1) (n + 1) (xs ++ news) ∧
        Below H w (w1.setCell ⟨H, 0, none⟩ (.slice (some ⟨g1, 0, none⟩) (n + 1) cap1)))) := by
  intro w1 g1 cap1 h1 h2
  have hlt := hx.lt
  have hx1 : Box w1 H 61 #[sv] := (show Box ((W.alloc tmp).drew) H 61 #[sv] from hx.alloc tmp).grown h2 (own_base ho (by omega))
  refine ⟨by simpa using hx1.cell 0, hx1.frozen 0, ?_, ?_, ?_⟩
  · simpa using hx1.set 0 (.slice (some ⟨g1, 0, none⟩) (n + 1) cap1)
  · exact ownsRow_setCell_below h1 (a := ⟨H, 0, none⟩) (by simp) _
  · have hb : Below H w w1 := ((hB.alloc (by omega) tmp).drew).grown h2 (by simp; omega) (fun j ej => by have := (ho.lt j ej).1; omega)
    exact hb.setCell (p := ⟨H, 0, none⟩) (Nat.le_refl _) _

set_option maxRecDepth 100000 in
set_option maxHeartbeats 8000000 in
theorem rnew_yes (c q : Int) (c0 : 0 ≤ c) (c1 : c ≤ 3) (q0 : 0 ≤ q) (q1 : q ≤ 51) (w : World) :
    Calls Try.prog 21 #[.int .i64 c, .int .i64 q] w fun e w' => e = .returned (.tuple #[.pointer (some ⟨w.heap.size, 0, none⟩), .int .i64 0]) ∧ (∃ r, RTab w' w.heap.size r (S0 c q) ∧ w.heap.size < r) ∧ Below w.heap.size w w' := by
  obtain ⟨i0, hi, hz0, hz1, hz2⟩ := info_parts info23
  have HE := Lib.hid (show ∀ k : Nat, k < 286 → eI k c q = 0 from fun k hk => by unfold eI; rw [if_pos (by unfold inI; omega)])
  have X0 := Lib.hid (Box.new w 61 #[.slice none 0 0])
  go_enter Try.func21, Try.ntmps21
  go_wp2_with (fail)
  go_loopw [7] (fun v wr => ∃ (k : Nat) (sv : Value), k ≤ 286 ∧ v = .int .i64 k ∧ Box wr w.heap.size 61 #[sv] ∧ wr.ownsRow (w.heap.size + 1) 23 2 sv k (cells2 (S0 c q) k) ∧ Below w.heap.size w wr) (fun v _ => 286 - (intOf v).toNat)
  case atStart => exact ⟨0, .slice none 0 0, by omega, rfl, X0.out, World.ownsRow_nil _ _ _ _, (Below.refl _ _).alloc (Nat.le_refl _) _⟩
  case round =>
    obtain ⟨k, sv, hk, rfl, hx, ho, hB⟩ := hrel
    by_cases hlt : k < 286
    · have HI := Lib.hid (rinit_any k c q wr)
      rw [HE.out k hlt] at HI
      have HC := Lib.hid (cells2_succ (S0 c q) k)
      rw [show (S0 c q k).1 = pI k c q from rfl, show (S0 c q k).2 = bI k c q from rfl] at HC
      generalize pI k c q = x at *
      generalize bI k c q = y at *
      generalize cells2 (S0 c q) k = xs at *
      obtain ⟨aL, cL, rfl⟩ := own_form ho
      have hk' : (k : Int) < 286 := by omega
      have XH := Lib.hid hx
      have OH := Lib.hid ho
      have BH := Lib.hid hB
      have hs := hB.size
      have hxl := hx.lt
      clear hx ho hB
      go_wp2_with (fail)
      refine HI.out.mono ?_
      rintro e w1 ⟨rfl, b1⟩
      have XX := Lib.hid ((XH.out.below b1 hxl).alloc (.cells #[.int .u8 x, .int .u8 y] 23))
      have oL := (own_below OH.out b1).alloc (.cells #[.int .u8 x, .int .u8 y] 23)
      have hs1 : w.heap.size < w1.heap.size := by have := b1.size; omega
      have BB := Lib.hid ((BH.out.trans (b1.mono hs)).alloc (by omega) (.cells #[.int .u8 x, .int .u8 y] 23))
      have LL := app_law (news := [.int .u8 x, .int .u8 y]) XX.out oL BB.out (.cells #[.int .u8 x, .int .u8 y] 23)
      have x0 : (w1.alloc (.cells #[.int .u8 x, .int .u8 y] 23)).cell? ⟨w.heap.size, 0, none⟩ = some (.slice aL k cL) := by simpa using XX.out.cell 0
      have hne : w.heap.size ≠ w1.heap.size := by omega
      have z0 : (w1.alloc (.cells #[.int .u8 x, .int .u8 y] 23)).cell? ⟨w1.heap.size, 0, none⟩ = some (.int .u8 x) := by simp
      have z1 : (w1.alloc (.cells #[.int .u8 x, .int .u8 y] 23)).cell? ⟨w1.heap.size, 1, none⟩ = some (.int .u8 y) := by simp
      have hWs : (w1.alloc (.cells #[.int .u8 x, .int .u8 y] 23)).heap.size = w1.heap.size + 1 := by simp
      have HWS := Lib.hid hWs
      clear hWs b1
      go_wp2_with (fail)
      generalize w1.alloc (.cells #[.int .u8 x, .int .u8 y] 23) = W at *
      have hW1 : w.heap.size + 1 ≤ W.heap.size := by have := HWS.out; omega
      have hW2 : w.heap.size ≠ W.heap.size := by omega
      have x0a : (W.alloc (.cells #[.int .u8 x, .int .u8 y] 23)).cell? ⟨w.heap.size, 0, none⟩ = some (.slice aL k cL) := by simpa using (XX.out.alloc (.cells #[.int .u8 x, .int .u8 y] 23)).cell 0
      have hW3 : w1.heap.size ≠ W.heap.size := by have := HWS.out; omega
      go_region_law ((refine step_append_lies _ (by rfl) _ _ _ (by rfl) (w.heap.size + 1) 23 i0 _ 2 2 Try.underlying59 hi hz0 hz1 hz2 rfl (by omega) (.slice aL k cL) k xs (by rfl) (oL.alloc _) ⟨W.heap.size, 0, none⟩ 1 1 [.int .u8 x, .int .u8 y] (by rfl) (by rfl) (World.news_of_block (cs := #[.int .u8 x, .int .u8 y]) (t := 23) (fr := (0, 0)) (heap_alloc_new W _)) (by simp [Value.oneCell']) (by omega) (by simp [maxLen]; omega) (by omega) (by simp; omega) (W.heap.size + 1) (by simp) ?_; intro g1 cap1 w2 hown1 hgrow hat hlt2; have hh := LL.out _ _ _ hown1 hgrow; have c0' := hh.1; have f0' := hh.2.1; have HH := hh.2.2; clear hh))
      all_goals
        go_wp2_with (fail)
        go_roundw
        case rel => exact ⟨k + 1, _, by omega, by go_num, HH.out.1, by rw [HC.out]; exact HH.out.2.1, HH.out.2.2⟩
        case measure => simp [intOf]; omega
    · obtain rfl : k = 286 := by omega
      have HR := Lib.hid (rtab_of_own hx ho (fun g hg => by have := (ho.lt g hg).1; omega))
      have BH := Lib.hid hB
      clear hx ho hB
      go_wp2_with (fail)
      go_ret2
      obtain ⟨r, hr, hr2⟩ := HR.out
      exact ⟨rfl, ⟨r, hr, by omega⟩, BH.out⟩

set_option maxRecDepth 100000 in
set_option maxHeartbeats 4000000 in
theorem rnew_no (c q : Int) (h : ¬ (0 ≤ c ∧ c ≤ 3 ∧ 0 ≤ q ∧ q ≤ 51)) (w : World) :
    Calls Try.prog 21 #[.int .i64 c, .int .i64 q] w fun e w' => e = .returned (.tuple #[.pointer none, .int .i64 3]) ∧ Below w.heap.size w w' := by
  have HI := Lib.hid (rinit_any 0 c q)
  have he : eI 0 c q = 3 := by unfold eI; rw [if_neg (by unfold inI; omega)]
  rw [he] at HI
  clear he h
  generalize pI 0 c q = x at *
  generalize bI 0 c q = y at *
  go_enter Try.func21, Try.ntmps21
  go_wp2_with (fail)
  go_loopw [7] (fun v wr => v = .int .i64 0 ∧ Below w.heap.size w wr) (fun v _ => 0)
  case atStart => exact ⟨rfl, (Below.refl _ _).alloc (Nat.le_refl _) _⟩
  case round =>
    obtain ⟨rfl, hB⟩ := hrel
    have B0 := Lib.hid hB
    clear hB
    go_wp2_with (go_at_call 11; refine (HI.out _).mono ?_; rintro e w1 ⟨rfl, b1⟩; have B1 := Lib.hid (B0.out.trans (b1.mono B0.out.size)); clear b1)
    go_ret2
    exact ⟨rfl, B1.out.alloc B1.out.size _⟩

theorem one_u8 (S : Nat → Int × Int) : ∀ k, ∀ u ∈ cells2 S k, u.oneCell' = true
  | 0, u, h => by simp [cells2] at h
  | k + 1, u, h => by
    rw [cells2_succ] at h
    rcases List.mem_append.1 h with h | h
    · exact one_u8 S k u h
    · simp at h
      rcases h with rfl | rfl <;> rfl

set_option maxRecDepth 100000 in
set_option maxHeartbeats 4000000 in
theorem rcopy_yes (h r : Nat) (S : Nat → Int × Int) (w : World) (hT : RTab w h r S) :
    Calls Try.prog 22 #[.pointer (some ⟨h, 0, none⟩)] w fun e w' => (∃ h', e = .returned (.pointer (some ⟨h', 0, none⟩)) ∧ w.heap.size ≤ h' ∧ ∃ r', RTab w' h' r' S ∧ w.heap.size ≤ r') ∧ Below w.heap.size w w' := by
  obtain ⟨i0, hi, hz0, hz1, hz2⟩ := info_parts info23
  have T0 := Lib.hid hT
  have HN := Lib.hid (rtab_news hT)
  obtain ⟨⟨cap, c0⟩, _⟩ := hT.cells 0 (by omega)
  have hcl := cells2_len S 286
  have HO := Lib.hid (one_u8 S 286)
  have HCL := Lib.hid hcl
  clear hT hcl
  go_enter Try.func22, Try.ntmps22
  go_wp2_with (at_builtin; refine wpList_append_own _ rfl _ _ 59 rfl w.heap.size 23 i0 (.agg #[.int .u8 0, .int .u8 0]) 2 2 Try.underlying59 hi hz0 hz1 hz2 rfl (by decide) (.slice none 0 0) 0 [] rfl (World.ownsRow_nil _ _ _ _) ⟨r, 0, none⟩ 286 cap (cells2 S 286) rfl HCL.out HN.out HO.out (by simp [maxLen]) (by omega) (by simp) ?_; intro v' w1 hown' hgrow _; obtain ⟨av, cv, rfl⟩ := own_form hown'; have OO := Lib.hid hown'; have BG := Lib.hid ((Below.refl _ w).grown hgrow (Nat.le_refl _) (by simp [Value.ownBlock])); clear hown' hgrow)
  go_ret
  have hz := OO.out.alloc (.cells #[.slice av 286 cv] 61)
  simp only [Nat.zero_add, List.nil_append] at hz
  have hlt : ∀ g, (Value.slice av 286 cv).ownBlock = some g → g ≠ w1.heap.size := fun g hg => by have := (OO.out.lt g (by simpa using hg)).2; omega
  obtain ⟨r', t1, t2⟩ := rtab_of_own (S := S) (Box.new w1 61 #[.slice av 286 cv]) hz hlt
  exact ⟨⟨w1.heap.size, rfl, BG.out.size, r', t1, t2⟩, BG.out.alloc BG.out.size _⟩

end Go.Proofs.Ytomeiofieheggaa
