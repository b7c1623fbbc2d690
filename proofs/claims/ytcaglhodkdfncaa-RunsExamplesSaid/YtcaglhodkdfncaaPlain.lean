/- The plain mathematics of levels and runs: what a block's levels, zeros and runs are, and how a block is built of them. Lists and integers alone. -/
namespace Go.Proofs.Ytcaglhodkdfncaa

/-- levels, before, and how many zeros have been met since the last level: the coefficients are gone through from the last one back. -/
abbrev St := List Int × List Int × Nat
def stp (v : Int) (s : St) : St := if v = 0 then (s.1, s.2.1, s.2.2 + 1) else (s.1 ++ [v], (if s.1 = [] then s.2.1 else s.2.1 ++ [(s.2.2 : Int)]), 0)
def runS (l : List Int) : St := l.foldr stp ([], [], 0)
def lev (l : List Int) : List Int := (runS l).1
def bef (l : List Int) : List Int := (runS l).2.1
def gap (l : List Int) : Nat := (runS l).2.2
def zer (l : List Int) : Int := if lev l = [] then 0 else gap l + (bef l).sum

theorem lev_nil : lev [] = [] := rfl
theorem bef_nil : bef [] = [] := rfl
theorem gap_nil : gap [] = 0 := rfl
theorem lev_zero (l : List Int) : lev (0 :: l) = lev l := by simp [lev, runS, stp]
theorem bef_zero (l : List Int) : bef (0 :: l) = bef l := by simp [bef, runS, stp]
theorem gap_zero (l : List Int) : gap (0 :: l) = gap l + 1 := by simp [gap, runS, stp]
theorem lev_cons {v : Int} (h : v ≠ 0) (l : List Int) : lev (v :: l) = lev l ++ [v] := by simp [lev, runS, stp, h]
theorem gap_cons {v : Int} (h : v ≠ 0) (l : List Int) : gap (v :: l) = 0 := by simp [gap, runS, stp, h]
theorem bef_cons_first {v : Int} (h : v ≠ 0) (l : List Int) (hl : lev l = []) : bef (v :: l) = bef l := by
  have : (runS l).1 = [] := hl
  simp only [bef, runS, List.foldr_cons] at *
  simp [stp, h, this]
theorem bef_cons_next {v : Int} (h : v ≠ 0) (l : List Int) (hl : lev l ≠ []) : bef (v :: l) = bef l ++ [(gap l : Int)] := by
  have : (runS l).1 ≠ [] := hl
  simp only [bef, gap, runS, List.foldr_cons] at *
  simp [stp, h, this]

theorem bef_of_none (l : List Int) (h : lev l = []) : bef l = [] ∧ gap l = l.length ∧ l = List.replicate l.length 0 := by
  induction l with
  | nil => exact ⟨rfl, rfl, rfl⟩
  | cons v l ih =>
    by_cases hv : v = 0
    · subst hv
      rw [lev_zero] at h
      obtain ⟨h1, h2, h3⟩ := ih h
      refine ⟨by rw [bef_zero, h1], by rw [gap_zero, h2]; rfl, ?_⟩
      rw [List.length_cons, List.replicate_succ, ← h3]
    · rw [lev_cons hv] at h
      simp at h

theorem bef_length (l : List Int) : (bef l).length = (lev l).length - 1 := by
  induction l with
  | nil => rfl
  | cons v l ih =>
    by_cases hv : v = 0
    · subst hv; rw [bef_zero, lev_zero, ih]
    · by_cases hl : lev l = []
      · rw [bef_cons_first hv l hl, lev_cons hv, hl, ih, hl]; rfl
      · rw [bef_cons_next hv l hl, lev_cons hv]
        have : 0 < (lev l).length := List.length_pos_iff.2 hl
        simp [ih]; omega

theorem bef_nonneg (l : List Int) : ∀ b ∈ bef l, 0 ≤ b := by
  induction l with
  | nil => simp [bef_nil]
  | cons v l ih =>
    by_cases hv : v = 0
    · subst hv; rw [bef_zero]; exact ih
    · by_cases hl : lev l = []
      · rw [bef_cons_first hv l hl]; exact ih
      · rw [bef_cons_next hv l hl]
        intro b hb
        rcases List.mem_append.1 hb with hb | hb
        · exact ih b hb
        · simp at hb; omega

theorem lev_ne_zero (l : List Int) : ∀ v ∈ lev l, v ≠ 0 := by
  induction l with
  | nil => simp [lev_nil]
  | cons v l ih =>
    by_cases hv : v = 0
    · subst hv; rw [lev_zero]; exact ih
    · rw [lev_cons hv]
      intro b hb
      rcases List.mem_append.1 hb with hb | hb
      · exact ih b hb
      · simp at hb; subst hb; exact hv

theorem lev_mem (l : List Int) : ∀ v ∈ lev l, v ∈ l := by
  induction l with
  | nil => simp [lev_nil]
  | cons v l ih =>
    by_cases hv : v = 0
    · subst hv; rw [lev_zero]; intro b hb; exact List.mem_cons_of_mem _ (ih b hb)
    · rw [lev_cons hv]
      intro b hb
      rcases List.mem_append.1 hb with hb | hb
      · exact List.mem_cons_of_mem _ (ih b hb)
      · simp at hb; subst hb; simp

theorem lev_length_le (l : List Int) : (lev l).length ≤ l.length := by
  induction l with
  | nil => simp [lev_nil]
  | cons v l ih =>
    by_cases hv : v = 0
    · subst hv; rw [lev_zero]; simp; omega
    · rw [lev_cons hv]; simp; omega

/-- The part of a block that ends with its last level, out of levels and runs. -/
def suf : List Int → List Int → List Int
  | [], _ => []
  | v :: vs, bs => suf vs bs.tail ++ (List.replicate (bs.headD 0).toNat 0 ++ [v])

theorem snoc_of (l : List Int) (h : l ≠ []) : ∃ xs x, l = xs ++ [x] := ⟨_, _, (List.dropLast_concat_getLast h).symm⟩
theorem snoc_ind {P : List Int → Prop} (h0 : P []) (h1 : ∀ xs x, P xs → P (xs ++ [x])) (l : List Int) : P l := by
  have : ∀ r : List Int, P r.reverse := by
    intro r
    induction r with
    | nil => exact h0
    | cons a r ih => rw [List.reverse_cons]; exact h1 _ _ ih
  have h := this l.reverse
  rwa [List.reverse_reverse] at h

theorem suf_snoc (v b : Int) : ∀ (vs bs : List Int), vs.length = bs.length → suf (vs ++ [v]) (bs ++ [b]) = List.replicate b.toNat 0 ++ [v] ++ suf vs bs
  | [], [], _ => by simp [suf]
  | x :: vs, c :: bs, h => by
    have := suf_snoc v b vs bs (by simpa using h)
    simp [suf, this]
  | [], _ :: _, h => by simp at h
  | _ :: _, [], h => by simp at h

/-- The last level has no run beside it. -/
theorem suf_last (v : Int) : ∀ (vs bs : List Int), vs.length = bs.length → suf (vs ++ [v]) bs = [v] ++ suf vs bs
  | [], [], _ => by simp [suf]
  | x :: vs, c :: bs, h => by
    have := suf_last v vs bs (by simpa using h)
    simp [suf, this]
  | [], _ :: _, h => by simp at h
  | _ :: _, [], h => by simp at h

theorem suf_length : ∀ (vs bs : List Int), (∀ b ∈ bs, 0 ≤ b) → bs.length ≤ vs.length → ((suf vs bs).length : Int) = vs.length + bs.sum
  | [], [], _, _ => by simp [suf]
  | v :: vs, [], h, hl => by
    have := suf_length vs [] (by simp) (by simp)
    simp [suf] at this ⊢; omega
  | v :: vs, c :: bs, h, hl => by
    have := suf_length vs bs (fun b hb => h b (List.mem_cons_of_mem _ hb)) (by simpa using hl)
    have hc := h c (by simp)
    simp [suf]; omega
  | [], _ :: _, _, hl => by simp at hl

/-- A block with these levels and runs. -/
def blk (size : Nat) (vs : List Int) (z : Int) (bs : List Int) : List Int :=
  List.replicate (z - bs.sum).toNat 0 ++ suf vs bs ++ List.replicate (size - vs.length - z.toNat) 0

/-- A block is what its levels and runs say. -/
theorem shape (l : List Int) (h : lev l ≠ []) : ∃ t, l = List.replicate (gap l) 0 ++ suf (lev l) (bef l) ++ List.replicate t 0 := by
  induction l with
  | nil => exact absurd lev_nil h
  | cons v l ih =>
    by_cases hv : v = 0
    · subst hv
      rw [lev_zero] at h
      obtain ⟨t, ht⟩ := ih h
      refine ⟨t, ?_⟩
      rw [lev_zero, bef_zero, gap_zero, List.replicate_succ, List.cons_append, List.cons_append, ← ht]
    · rw [gap_cons hv, lev_cons hv]
      by_cases hl : lev l = []
      · obtain ⟨h1, h2, h3⟩ := bef_of_none l hl
        refine ⟨l.length, ?_⟩
        rw [bef_cons_first hv l hl, hl, h1]
        conv => lhs; rw [h3]
        simp [suf]
      · obtain ⟨t, ht⟩ := ih hl
        refine ⟨t, ?_⟩
        have hlen : (lev l).length = (bef l).length + 1 := by
          have := bef_length l
          have : 0 < (lev l).length := List.length_pos_iff.2 hl
          omega
        rw [bef_cons_next hv l hl]
        rw [suf_last v (lev l) (bef l ++ [(gap l : Int)]) (by simp [hlen])]
        have hs : suf (lev l) (bef l ++ [(gap l : Int)]) = List.replicate (gap l) 0 ++ suf (lev l) (bef l) := by
          obtain ⟨vs, x, e⟩ : ∃ vs x, lev l = vs ++ [x] := snoc_of _ hl
          rw [e] at hlen ⊢
          have hlen' : vs.length = (bef l).length := by simpa using hlen
          rw [suf_snoc x _ vs (bef l) hlen', suf_last x vs (bef l) hlen']
          simp
        rw [hs]
        conv => lhs; rw [ht]
        simp

theorem zer_nonneg (l : List Int) : 0 ≤ zer l := by
  unfold zer
  split
  · omega
  · have : 0 ≤ (bef l).sum := by
      have := bef_nonneg l
      revert this
      induction bef l with
      | nil => simp
      | cons a r ih => intro h; have h1 := h a (by simp); have h2 := ih (fun b hb => h b (List.mem_cons_of_mem _ hb)); simp; omega
    omega

theorem sum_nonneg (bs : List Int) (h : ∀ b ∈ bs, 0 ≤ b) : 0 ≤ bs.sum := by
  induction bs with
  | nil => simp
  | cons a r ih => have h1 := h a (by simp); have h2 := ih (fun b hb => h b (List.mem_cons_of_mem _ hb)); simp; omega

theorem zer_gap (l : List Int) (h : lev l ≠ []) : zer l - (bef l).sum = gap l := by unfold zer; rw [if_neg h]; omega

/-- P17.4: Block of Of. -/
theorem blk_of (l : List Int) : blk l.length (lev l) (zer l) (bef l) = l := by
  by_cases h : lev l = []
  · obtain ⟨h1, h2, h3⟩ := bef_of_none l h
    have hz : zer l = 0 := by unfold zer; rw [if_pos h]
    rw [h, hz, h1]
    simp only [blk, suf]
    simp
    exact h3.symm
  · obtain ⟨t, ht⟩ := shape l h
    have hs := suf_length (lev l) (bef l) (bef_nonneg l) (by have := bef_length l; omega)
    have hlen : l.length = gap l + (suf (lev l) (bef l)).length + t := by
      conv => lhs; rw [ht]
      simp; omega
    have hz := zer_gap l h
    have ht2 : l.length - (lev l).length - (zer l).toNat = t := by
      have := zer_nonneg l
      have := sum_nonneg _ (bef_nonneg l)
      omega
    unfold blk
    rw [hz, ht2, Int.toNat_natCast]
    exact ht.symm

/-- P17.5. -/
structure Poss (size : Nat) (vs : List Int) (z : Int) (bs : List Int) : Prop where
  len : vs.length ≤ size
  bef : bs.length = vs.length - 1
  z0 : 0 ≤ z
  z1 : z ≤ size - vs.length
  none : vs = [] → z = 0
  nn : ∀ b ∈ bs, 0 ≤ b
  sum : bs.sum ≤ z
  ne : ∀ v ∈ vs, v ≠ 0

theorem poss_of (l : List Int) : Poss l.length (lev l) (zer l) (bef l) := by
  refine ⟨lev_length_le l, bef_length l, zer_nonneg l, ?_, fun h => by unfold zer; rw [if_pos h], bef_nonneg l, ?_, lev_ne_zero l⟩
  · by_cases h : lev l = []
    · have hz : zer l = 0 := by unfold zer; rw [if_pos h]
      rw [hz, h]; simp
    · obtain ⟨t, ht⟩ := shape l h
      have hs := suf_length (lev l) (bef l) (bef_nonneg l) (by have := bef_length l; omega)
      have hlen : l.length = gap l + (suf (lev l) (bef l)).length + t := by
        conv => lhs; rw [ht]
        simp; omega
      have hz := zer_gap l h
      omega
  · by_cases h : lev l = []
    · obtain ⟨h1, _, _⟩ := bef_of_none l h
      rw [h1]; exact zer_nonneg l
    · have := zer_gap l h; omega

theorem runS_zeros (n : Nat) (l : List Int) : runS (List.replicate n 0 ++ l) = ((runS l).1, (runS l).2.1, (runS l).2.2 + n) := by
  induction n with
  | zero => simp
  | succ n ih =>
    rw [List.replicate_succ, List.cons_append]
    show stp 0 (runS _) = _
    rw [ih]; simp [stp]; omega

theorem runS_suf (t : Nat) : ∀ (vs bs : List Int), (∀ b ∈ bs, 0 ≤ b) → (∀ v ∈ vs, v ≠ 0) → bs.length = vs.length →
    vs ≠ [] → runS (suf vs bs ++ List.replicate t 0) = (vs, bs.dropLast, ((bs.getLastD 0).toNat)) := by
  intro vs
  induction vs using snoc_ind with
  | h0 => intro bs hb hv hl hne; exact absurd rfl hne
  | h1 vs v ih =>
    intro bs hb hv hl hne
    obtain ⟨bs, b, rfl⟩ : ∃ bs' b, bs = bs' ++ [b] := by
      have : bs ≠ [] := by intro e; subst e; simp at hl
      exact snoc_of _ this
    have hl' : vs.length = bs.length := by simpa using hl.symm
    rw [suf_snoc v b vs bs hl', List.append_assoc, List.append_assoc, runS_zeros]
    have hv0 : v ≠ 0 := hv v (by simp)
    have e1 : runS ([v] ++ (suf vs bs ++ List.replicate t 0)) = stp v (runS (suf vs bs ++ List.replicate t 0)) := rfl
    rw [e1]
    by_cases hvs : vs = []
    · subst hvs
      have hbs : bs = [] := by simpa using hl'.symm
      subst hbs
      have e2 : runS (suf [] [] ++ List.replicate t 0) = ([], [], t) := by
        have := runS_zeros t []
        simp at this
        simp [suf, this]; exact ⟨rfl, rfl, rfl⟩
      rw [e2]; simp [stp, hv0]
    · rw [ih bs (fun x hx => hb x (by simp [hx])) (fun x hx => hv x (by simp [hx])) hl'.symm hvs]
      have hbs : bs ≠ [] := by intro e; subst e; simp at hl'; exact hvs hl'
      have hlast : 0 ≤ bs.getLastD 0 := by
        obtain ⟨b', c, rfl⟩ : ∃ b' c, bs = b' ++ [c] := snoc_of _ hbs
        have := hb c (by simp)
        simpa using this
      simp only [stp, hv0, if_false, hvs]
      obtain ⟨b', c, rfl⟩ : ∃ b' c, bs = b' ++ [c] := snoc_of _ hbs
      simp at hlast ⊢
      omega

/-- P17.4: Of of Block. -/
theorem of_blk {size : Nat} {vs : List Int} {z : Int} {bs : List Int} (h : Poss size vs z bs) :
    (blk size vs z bs).length = size ∧ lev (blk size vs z bs) = vs ∧ zer (blk size vs z bs) = z ∧ bef (blk size vs z bs) = bs := by
  have hs := suf_length vs bs h.nn (by have := h.bef; omega)
  have h0 := sum_nonneg bs h.nn
  have hz0 := h.z0
  have hz1 := h.z1
  have hsum := h.sum
  have hlen : (blk size vs z bs).length = size := by
    unfold blk
    simp only [List.length_append, List.length_replicate]
    omega
  refine ⟨hlen, ?_⟩
  by_cases hvs : vs = []
  · subst hvs
    have hz := h.none rfl
    have hb := h.bef
    have hbs : bs = [] := by simpa using hb
    subst hbs; subst hz
    have e : blk size [] 0 [] = List.replicate size 0 ++ [] := by simp [blk, suf]
    rw [e]
    have hr := runS_zeros size []
    refine ⟨?_, ?_, ?_⟩
    · unfold lev; rw [hr]; rfl
    · unfold zer lev; rw [hr]; rfl
    · unfold bef; rw [hr]; rfl
  · have hvl : 0 < vs.length := List.length_pos_iff.2 hvs
    have hb1 : (bs ++ [0]).length = vs.length := by have := h.bef; simp; omega
    have hsuf : suf vs (bs ++ [0]) = suf vs bs := by
      obtain ⟨ws, x, rfl⟩ : ∃ ws x, vs = ws ++ [x] := snoc_of _ hvs
      have hwl : ws.length = bs.length := by simpa using hb1.symm
      rw [suf_snoc x 0 ws bs hwl, suf_last x ws bs hwl]; simp
    have hr := runS_suf (size - vs.length - z.toNat) vs (bs ++ [0]) (by intro b hb; rcases List.mem_append.1 hb with hb | hb; exact h.nn b hb; simp at hb; omega) h.ne hb1 hvs
    rw [hsuf] at hr
    have hr2 : runS (blk size vs z bs) = (vs, bs, (z - bs.sum).toNat) := by
      unfold blk
      rw [List.append_assoc, runS_zeros, hr]
      simp
    have e1 : lev (blk size vs z bs) = vs := by unfold lev; rw [hr2]
    have e2 : bef (blk size vs z bs) = bs := by unfold bef; rw [hr2]
    refine ⟨e1, ?_, e2⟩
    unfold zer
    rw [e1, e2, if_neg hvs]
    unfold gap; rw [hr2]; simp; omega

theorem gap_le (l : List Int) : gap l ≤ l.length := by
  induction l with
  | nil => simp [gap_nil]
  | cons v l ih =>
    by_cases hv : v = 0
    · subst hv; rw [gap_zero]; simp; omega
    · rw [gap_cons hv]; omega

theorem sum_take (bs : List Int) (h : ∀ b ∈ bs, 0 ≤ b) : ∀ m, 0 ≤ (bs.take m).sum ∧ (bs.take m).sum ≤ bs.sum := by
  induction bs with
  | nil => simp
  | cons a r ih =>
    intro m
    have h1 := h a (by simp)
    have hr : ∀ b ∈ r, 0 ≤ b := fun b hb => h b (List.mem_cons_of_mem _ hb)
    have h2 := sum_nonneg r hr
    cases m with
    | zero => simp; omega
    | succ m => have := ih hr m; simp; omega

theorem sum_take_succ (bs : List Int) (m : Nat) (h : m < bs.length) : (bs.take (m + 1)).sum = (bs.take m).sum + bs[m]?.getD 0 := by
  rw [List.take_succ_eq_append_getElem h, List.sum_append]; simp [h]

end Go.Proofs.Ytcaglhodkdfncaa
