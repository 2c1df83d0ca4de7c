/- Plain lemmas on memories: what Store, Free, New and Pop leave of what is known of a memory: it may be; its pointers; how deep they point; life. -/
import Derived.Test.YtmelamlngjflkaaK
import Derived.Test.YtmelamlngjflkaaN
import Derived.Test.YtmelamlngjflkaaS
import Derived.Test.YtmelamlngjflkaaF
import Derived.Test.YtmelamlngjflkaaE
namespace Go.Proofs.Ytmelamlngjflkaa
set_option linter.unusedVariables false
open Go.RowKit

/-- Two memories of one shape: as many blocks, of as many cells, of one depth. -/
def Shape (m m' : List Blk) : Prop := m'.length = m.length ∧ ∀ (i : Nat) (b : Blk), m[i]? = some b → ∃ b' : Blk, m'[i]? = some b' ∧ b'.cells.length = b.cells.length ∧ b'.dep = b.dep

theorem Shape.len {m m' : List Blk} (h : Shape m m') (i : Nat) : ((m'[i]?).map fun x => (x.cells.length : Int)) = (m[i]?).map fun x => (x.cells.length : Int) := by
  cases e : m[i]? with
  | none =>
    have : m'[i]? = none := by
      have h1 := h.1
      rw [List.getElem?_eq_none_iff] at e ⊢
      omega
    rw [this]
  | some b =>
    obtain ⟨b', h1, h2, _⟩ := h.2 i b e
    rw [h1]
    simp [h2]
theorem Shape.dep {m m' : List Blk} (h : Shape m m') (i : Nat) : ((m'[i]?).map (·.dep)) = (m[i]?).map (·.dep) := by
  cases e : m[i]? with
  | none =>
    have : m'[i]? = none := by
      have h1 := h.1
      rw [List.getElem?_eq_none_iff] at e ⊢
      omega
    rw [this]
  | some b =>
    obtain ⟨b', h1, _, h2⟩ := h.2 i b e
    rw [h1]
    simp [h2]
theorem Shape.is {m m' : List Blk} (h : Shape m m') (x : Val) : isB m' x = isB m x := by
  unfold isB inB
  rw [h.len, h.1]
theorem Shape.deep {m m' : List Blk} (h : Shape m m') (x : Val) : deepB m' x = deepB m x := by
  unfold deepB
  rw [h.dep]

theorem may_iff {m : List Blk} : mayM m = true ↔ m.length ≤ 4096 ∧ ∀ b ∈ m, (0 ≤ b.site ∧ 0 ≤ b.ty ∧ 0 ≤ b.dep ∧ 1 ≤ b.cells.length ∧ b.cells.length ≤ 32) ∧ ∀ c ∈ b.cells, isB m c = true := by
  simp only [mayM, blkB, Bool.and_eq_true, decide_eq_true_eq, List.all_eq_true]

theorem life_iff {m : List Blk} : lifeB m = true ↔ ∀ b ∈ m, b.alive = true → ∀ c ∈ b.cells, ¬ b.dep < deepB m c := by
  simp only [lifeB, badB, List.all_eq_true, Bool.not_eq_true', Bool.and_eq_false_iff, List.any_eq_false, decide_eq_true_eq]
  constructor
  · intro h b hb ha c hc
    rcases h b hb with h | h
    · rw [ha] at h; cases h
    · exact h c hc
  · intro h b hb
    cases ha : b.alive
    · exact .inl rfl
    · exact .inr (h b hb ha)

/-- A block's place is taken by another one of the same shape. -/
theorem shape_set {m : List Blk} {k : Nat} {b b' : Blk} (hb : m[k]? = some b) (hc : b'.cells.length = b.cells.length) (hd : b'.dep = b.dep) : Shape m (m.set k b') := by
  refine ⟨by simp, fun i x hx => ?_⟩
  have hk := (List.getElem?_eq_some_iff.1 hb).1
  by_cases e : k = i
  · subst e
    rw [hb] at hx
    injection hx with hx
    subst hx
    exact ⟨b', by rw [List.getElem?_set_self hk], hc, hd⟩
  · exact ⟨x, by rw [List.getElem?_set_ne e]; exact hx, rfl, rfl⟩

theorem set_mem {m : List Blk} {k : Nat} {b' x : Blk} (h : x ∈ m.set k b') : x ∈ m ∨ x = b' := List.mem_or_eq_of_mem_set h

/-- What a store leaves. -/
theorem may_set {m : List Blk} {k : Nat} {b b' : Blk} (hm : mayM m = true) (hb : m[k]? = some b) (hc : b'.cells.length = b.cells.length) (hd : b'.dep = b.dep) (hs : b'.site = b.site) (ht : b'.ty = b.ty) (hi : ∀ c ∈ b'.cells, isB m c = true) : mayM (m.set k b') = true := by
  rw [may_iff] at hm ⊢
  have sh := shape_set hb hc hd
  refine ⟨by simpa using hm.1, fun x hx => ?_⟩
  rcases set_mem hx with hx | rfl
  · exact ⟨(hm.2 x hx).1, fun c hc => by rw [sh.is]; exact (hm.2 x hx).2 c hc⟩
  · have := hm.2 b (List.mem_of_getElem? hb)
    rw [hc, hd, hs, ht]
    exact ⟨this.1, fun c hc => by rw [sh.is]; exact hi c hc⟩
theorem life_set {m : List Blk} {k : Nat} {b b' : Blk} (hl : lifeB m = true) (hb : m[k]? = some b) (hc : b'.cells.length = b.cells.length) (hd : b'.dep = b.dep) (hi : b'.alive = true → ∀ c ∈ b'.cells, ¬ b.dep < deepB m c) : lifeB (m.set k b') = true := by
  rw [life_iff] at hl ⊢
  have sh := shape_set hb hc hd
  intro x hx ha c hcc
  rw [sh.deep]
  rcases set_mem hx with hx | rfl
  · exact hl x hx ha c hcc
  · rw [hd]
    exact hi ha c hcc

/-! ### Store -/
theorem store_zero {m : List Blk} {p x : Val} (h : storeI m p x = 0) : askedI m p true = 0 ∧ isB m x = true ∧ 0 < p.b ∧ (cellAt m p).k = x.k ∧ (blkAt m p).alive = true ∧ ¬ (blkAt m p).dep < deepB m x := by
  unfold storeI at h
  split at h
  · rename_i ha
    obtain ⟨hy, hk, his, hn⟩ := askedI_zero ha
    split at h
    · cases h
    · rename_i h1
      split at h
      · cases h
      · rename_i h2
        have hb := (in_of hk h2 his).1
        split at h
        · rename_i h3
          split at h
          · cases h
          · rename_i h4
            refine ⟨ha, ?_, hb, ?_, h3, h4⟩
            · cases e : isB m x
              · exact absurd (.inl e) h1
              · rfl
            · exact Classical.byContradiction fun hne => h1 (.inr ⟨hb, hne⟩)
        · cases h
  · rename_i h1
    exact absurd h h1

theorem store_facts {m : List Blk} {p x : Val} (h : storeI m p x = 0) : mayM m = true ∧ isB m p = true ∧ p.k = 2 ∧ isB m x = true ∧ (cellAt m p).k = x.k ∧ (blkAt m p).alive = true ∧ ¬ (blkAt m p).dep < deepB m x ∧
    0 < p.b ∧ p.b ≤ m.length ∧ 0 ≤ p.o ∧ p.o < (blkAt m p).cells.length ∧ m[p.b.toNat - 1]? = some (blkAt m p) ∧ (blkAt m p).cells[p.o.toNat]? = some (cellAt m p) := by
  obtain ⟨ha, hx, hb, hk, hal, hd⟩ := store_zero h
  obtain ⟨hy, hk2, his, hn⟩ := askedI_zero ha
  obtain ⟨h0, h1, h2, b, hgb, heb, hol, hce⟩ := in_of hk2 (by omega) his
  subst heb
  exact ⟨hy, his, hk2, hx, hk, hal, hd, h0, h1, h2, hol, hgb, hce⟩

theorem stored_shape {m : List Blk} {p x : Val} (h : storeI m p x = 0) : Shape m (storeM m p x) := by
  obtain ⟨_, _, _, _, _, _, _, _, _, _, _, hgb, _⟩ := store_facts h
  exact shape_set hgb (by simp) rfl
theorem stored_may {m : List Blk} {p x : Val} (h : storeI m p x = 0) : mayM (storeM m p x) = true := by
  obtain ⟨hy, _, _, hx, _, _, _, _, _, _, _, hgb, _⟩ := store_facts h
  refine may_set hy hgb (by simp) rfl rfl rfl fun c hc => ?_
  rcases List.mem_or_eq_of_mem_set hc with hc | rfl
  · exact ((may_iff.1 hy).2 _ (List.mem_of_getElem? hgb)).2 c hc
  · exact hx
theorem stored_life {m : List Blk} {p x : Val} (h : storeI m p x = 0) (hl : lifeB m = true) : lifeB (storeM m p x) = true := by
  obtain ⟨hy, _, _, hx, _, hal, hd, _, _, _, _, hgb, _⟩ := store_facts h
  refine life_set hl hgb (by simp) rfl fun _ c hc => ?_
  rcases List.mem_or_eq_of_mem_set hc with hc | rfl
  · exact life_iff.1 hl _ (List.mem_of_getElem? hgb) hal c hc
  · exact hd

/-- Of one block in the place of another: what is at a pointer. -/
theorem blkAt_set {m : List Blk} {k : Nat} {b' : Blk} (hk : k < m.length) (q : Val) : blkAt (m.set k b') q = if q.b.toNat - 1 = k then b' else blkAt m q := by
  unfold blkAt
  by_cases e : q.b.toNat - 1 = k
  · rw [if_pos e, e, List.getElem?_set_self hk]
    rfl
  · rw [if_neg e, List.getElem?_set_ne (fun e' => e e'.symm)]

theorem asked_shape {m m' : List Blk} (sh : Shape m m') (hy : mayM m = true) (hy' : mayM m' = true) (q : Val) (n : Bool) : askedI m' q n = askedI m q n := by
  unfold askedI askI
  rw [hy, hy', sh.is]

/-! ### MemBack -/
theorem back_load {m : List Blk} {p x : Val} (h : storeI m p x = 0) : loadI (storeM m p x) p = 0 ∧ loadV (storeM m p x) p = x := by
  obtain ⟨hy, hisp, hk2, hx, hk, hal, hd, hb0, hb1, ho0, ho1, hgb, hce⟩ := store_facts h
  have ha : askedI (storeM m p x) p false = 0 := by
    rw [asked_shape (stored_shape h) hy (stored_may h)]
    have hp : ¬ p.b = 0 := by omega
    simp [askedI, askI, hy, hisp, hk2, hp]
  have hlen : p.b.toNat - 1 < m.length := by omega
  have e1 : blkAt (storeM m p x) p = { blkAt m p with cells := (blkAt m p).cells.set p.o.toNat x } := by
    unfold storeM
    rw [blkAt_set hlen, if_pos rfl]
  constructor
  · simp [loadI, ha, e1, hal]
  · rw [loadV, if_pos ⟨ha, by rw [e1]; exact hal⟩, cellAt, e1]
    simp only
    rw [List.getElem?_set_self (by omega)]
    rfl

theorem back_err {m : List Blk} {p x q : Val} (h : storeI m p x = 0) : loadI (storeM m p x) q = loadI m q := by
  obtain ⟨hy, hisp, hk2, hx, hk, hal, hd, hb0, hb1, ho0, ho1, hgb, hce⟩ := store_facts h
  unfold loadI
  rw [asked_shape (stored_shape h) hy (stored_may h)]
  have hlen : p.b.toNat - 1 < m.length := by omega
  have : (blkAt (storeM m p x) q).alive = (blkAt m q).alive := by
    unfold storeM
    rw [blkAt_set hlen]
    split
    · rename_i e
      unfold blkAt
      rw [e]
    · rfl
  rw [this]

theorem back_other {m : List Blk} {p x q : Val} (h : storeI m p x = 0) (hne : ¬ p = q) : loadV (storeM m p x) q = loadV m q := by
  have he := back_err (q := q) h
  obtain ⟨hy, hisp, hk2, hx, hk, hal, hd, hb0, hb1, ho0, ho1, hgb, hce⟩ := store_facts h
  have hlen : p.b.toNat - 1 < m.length := by omega
  have ha := asked_shape (stored_shape h) hy (stored_may h) q false
  unfold loadV
  rw [ha]
  by_cases h0 : askedI m q false = 0
  · obtain ⟨_, hkq, hisq, hnq⟩ := askedI_zero h0
    have hqb : ¬ q.b = 0 := fun e => absurd e (by simpa using hnq)
    obtain ⟨hq0, hq1, hq2, b, hgq, heq, hoq, hcq⟩ := in_of hkq hqb hisq
    have hmp := mayB_true.1 (by have := hisp; simp only [isB, Bool.and_eq_true] at this; exact this.1)
    have hmq := mayB_true.1 (by have := hisq; simp only [isB, Bool.and_eq_true] at this; exact this.1)
    have hn : p.n = q.n := by omega
    have hbo : ¬ (q.b = p.b ∧ q.o = p.o) := fun e => hne (by cases p; cases q; simp_all)
    have ea : (blkAt (storeM m p x) q).alive = (blkAt m q).alive := by
      unfold storeM
      rw [blkAt_set hlen]
      split
      · rename_i e
        unfold blkAt
        rw [e]
      · rfl
    have ec : cellAt (storeM m p x) q = cellAt m q := by
      unfold cellAt storeM
      rw [blkAt_set hlen]
      split
      · rename_i e
        have e' : q.b = p.b := by omega
        have eo : ¬ q.o = p.o := fun eo => hbo ⟨e', eo⟩
        have : blkAt m q = blkAt m p := by unfold blkAt; rw [e]
        rw [this]
        simp only
        rw [List.getElem?_set_ne (by omega)]
      · rfl
    rw [ea, ec]
  · rw [if_neg (fun e => h0 e.1), if_neg (fun e => h0 e.1)]

/-! ### Free -/
theorem free_zero {m : List Blk} {p : Val} (h : freeI m p = 0) : mayM m = true ∧ isB m p = true ∧ p.k = 2 ∧ (blkAt m p).alive = true ∧ (blkAt m p).dep ≤ 0 ∧ p.o = 0 ∧ 0 < p.b ∧ p.b ≤ m.length ∧ m[p.b.toNat - 1]? = some (blkAt m p) := by
  unfold freeI at h
  split at h
  · rename_i ha
    obtain ⟨hy, hk, his, hn⟩ := askedI_zero ha
    have hqb : ¬ p.b = 0 := fun e => absurd e (by simpa using hn)
    obtain ⟨h0, h1, h2, b, hgb, heb, hol, hce⟩ := in_of hk hqb his
    subst heb
    split at h
    · cases h
    · split at h
      · rename_i h3 h4
        exact ⟨hy, his, hk, h4, by omega, by omega, h0, h1, hgb⟩
      · cases h
  · rename_i h1
    exact absurd h h1
def freeM (m : List Blk) (p : Val) : List Blk := m.set (p.b.toNat - 1) { blkAt m p with alive := false }
theorem freed_shape {m : List Blk} {p : Val} (h : freeI m p = 0) : Shape m (freeM m p) := by
  obtain ⟨hy, his, hk, hal, hd, ho, hb0, hb1, hgb⟩ := free_zero h
  exact shape_set hgb rfl rfl
theorem freed_may {m : List Blk} {p : Val} (h : freeI m p = 0) : mayM (freeM m p) = true := by
  obtain ⟨hy, his, hk, hal, hd, ho, hb0, hb1, hgb⟩ := free_zero h
  exact may_set hy hgb rfl rfl rfl rfl ((may_iff.1 hy).2 _ (List.mem_of_getElem? hgb)).2
theorem freed_life {m : List Blk} {p : Val} (h : freeI m p = 0) (hl : lifeB m = true) : lifeB (freeM m p) = true := by
  obtain ⟨hy, his, hk, hal, hd, ho, hb0, hb1, hgb⟩ := free_zero h
  refine life_set hl hgb rfl rfl fun e => ?_
  cases e

theorem freed_blk {m : List Blk} {p q : Val} (h : freeI m p = 0) (hb : q.b = p.b) : blkAt (freeM m p) q = { blkAt m p with alive := false } := by
  obtain ⟨hy, his, hk, hal, hd, ho, hb0, hb1, hgb⟩ := free_zero h
  unfold freeM
  rw [blkAt_set (by omega), if_pos (by rw [hb])]
theorem freed_other {m : List Blk} {p q : Val} (h : freeI m p = 0) (hb : ¬ q.b = p.b) (hq : 0 < q.b) : blkAt (freeM m p) q = blkAt m q := by
  obtain ⟨hy, his, hk, hal, hd, ho, hb0, hb1, hgb⟩ := free_zero h
  unfold freeM
  rw [blkAt_set (by omega), if_neg (by omega)]

theorem freed_asked {m : List Blk} {p q : Val} (h : freeI m p = 0) (n : Bool) : askedI (freeM m p) q n = askedI m q n :=
  asked_shape (freed_shape h) (free_zero h).1 (freed_may h) q n
theorem freed_asks {m : List Blk} {p : Val} (h : freeI m p = 0) : askedI m p false = 0 := by
  obtain ⟨hy, his, hk, hal, hd, ho, hb0, hb1, hgb⟩ := free_zero h
  have : ¬ p.b = 0 := by omega
  simp [askedI, askI, hy, his, hk, this]

theorem freed_load {m : List Blk} {p : Val} (h : freeI m p = 0) : loadI (freeM m p) p = 142 := by
  unfold loadI
  rw [freed_asked h, freed_asks h, if_pos rfl, freed_blk h rfl, if_neg (by simp)]
theorem freed_free {m : List Blk} {p : Val} (h : freeI m p = 0) : freeI (freeM m p) p = 142 := by
  obtain ⟨hy, his, hk, hal, hd, ho, hb0, hb1, hgb⟩ := free_zero h
  unfold freeI
  rw [freed_asked h, freed_asks h, if_pos rfl, freed_blk h rfl, if_neg (by simp; omega), if_neg (by simp)]
theorem freed_off {m : List Blk} {p q : Val} (h : freeI m p = 0) (hq : ¬ q.k = 2 ∨ ¬ q.b = p.b) : loadI (freeM m p) q = loadI m q ∧ loadV (freeM m p) q = loadV m q := by
  unfold loadI loadV
  rw [freed_asked h]
  by_cases h0 : askedI m q false = 0
  · obtain ⟨_, hkq, hisq, hnq⟩ := askedI_zero h0
    have hqb : ¬ q.b = 0 := fun e => absurd e (by simpa using hnq)
    obtain ⟨hq0, _⟩ := in_of hkq hqb hisq
    have e := freed_other h (q := q) (by omega) hq0
    unfold cellAt
    rw [e]
    exact ⟨rfl, rfl⟩
  · rw [if_neg h0, if_neg h0, if_neg (fun e => h0 e.1), if_neg (fun e => h0 e.1)]
    exact ⟨rfl, rfl⟩
theorem freed_in {m : List Blk} {p q : Val} (h : freeI m p = 0) (hk : q.k = 2) (hb : q.b = p.b) (h0 : loadI m q = 0) : loadI (freeM m p) q = 142 ∧ storeI (freeM m p) q (loadV m q) = 142 := by
  obtain ⟨hy, his, hk', hal, hd, ho, hb0, hb1, hgb⟩ := free_zero h
  have ha : askedI m q false = 0 := by
    unfold loadI at h0
    split at h0
    · assumption
    · rename_i h1
      exact absurd h0 h1
  have hal' : (blkAt m q).alive = true := by
    unfold loadI at h0
    rw [if_pos ha] at h0
    split at h0
    · assumption
    · cases h0
  obtain ⟨_, hkq, hisq, hnq⟩ := askedI_zero ha
  have hqb : ¬ q.b = 0 := by omega
  obtain ⟨hq0, hq1, hq2, b, hgq, heq, hoq, hcq⟩ := in_of hkq hqb hisq
  have eb := freed_blk h hb
  constructor
  · unfold loadI
    rw [freed_asked h, ha, if_pos rfl, eb, if_neg (by simp)]
  · have ev : loadV m q = cellAt m q := by rw [loadV, if_pos ⟨ha, hal'⟩]
    have ec : cellAt (freeM m p) q = cellAt m q := by
      unfold cellAt
      rw [eb]
      have : blkAt m q = blkAt m p := by unfold blkAt; rw [hb]
      rw [this]
    have hmem : isB m (cellAt m q) = true := by
      refine ((may_iff.1 hy).2 (blkAt m q) ?_).2 _ ?_
      · rw [heq]; exact List.mem_of_getElem? hgq
      · rw [heq]; exact List.mem_of_getElem? hcq
    have ha' : askedI (freeM m p) q true = 0 := by
      rw [freed_asked h]
      simp [askedI, askI, hy, hkq, hisq]
    unfold storeI
    rw [ha', if_pos rfl, ev, if_neg (by rw [(freed_shape h).is, hmem, ec]; simp), if_neg hqb, eb, if_neg (by simp)]

/-! ### New -/
theorem new_zero {m : List Blk} {site ty d : Int} {l : List Int} (h : newI m site ty d l = 0) : mayM m = true ∧ kindsB l = true ∧ 0 ≤ site ∧ 0 ≤ ty ∧ 0 ≤ d ∧ 1 ≤ l.length ∧ l.length ≤ 32 ∧ m.length < 4096 := by
  unfold newI at h
  split at h
  · split at h
    · cases h
    · rename_i hy h1
      split at h
      · cases h
      · refine ⟨hy, ?_, by omega, by omega, by omega, by omega, by omega, by omega⟩
        cases e : kindsB l
        · exact absurd (.inl e) h1
        · rfl
  · cases h
theorem new_is_old {m : List Blk} {b : Blk} {x : Val} (h : isB m x = true) : isB (m ++ [b]) x = true := by
  unfold isB at h ⊢
  rw [Bool.and_eq_true] at h ⊢
  refine ⟨h.1, ?_⟩
  have hm := mayB_true.1 h.1
  have h2 := h.2
  unfold inB at h2 ⊢
  simp only [Bool.or_eq_true, bne_iff_ne, ne_eq, beq_iff_eq, Bool.and_eq_true, decide_eq_true_eq] at h2 ⊢
  by_cases hk : x.k = 2
  · by_cases hb : x.b = 0
    · exact .inl (.inr hb)
    · rcases h2 with (h2 | h2) | h2
      · exact absurd hk h2
      · exact absurd h2 hb
      · refine .inr ⟨by simp; omega, ?_⟩
        rw [List.getElem?_append_left (by omega)]
        exact h2.2
  · exact .inl (.inl hk)
theorem new_deep_old {m : List Blk} {b : Blk} {x : Val} (h : isB m x = true) : deepB (m ++ [b]) x = deepB m x := by
  unfold deepB
  by_cases hk : x.k = 2 ∧ 0 < x.b
  · have hlt : x.b.toNat - 1 < m.length := by
      have h2 := h
      simp only [isB, inB, Bool.and_eq_true, Bool.or_eq_true, bne_iff_ne, ne_eq, beq_iff_eq, decide_eq_true_eq] at h2
      omega
    rw [if_pos hk, if_pos hk, List.getElem?_append_left hlt]
  · rw [if_neg hk, if_neg hk]
theorem first_is {m : List Blk} {k : Int} (h : kindB k = true) : isB m (firstV k) = true ∧ deepB m (firstV k) = 0 := by
  have h' : 1 ≤ k ∧ k ≤ 3 := by simpa [kindB] using h
  constructor
  · unfold isB
    rw [Bool.and_eq_true]
    refine ⟨?_, by simp [inB, firstV]⟩
    obtain rfl | rfl | rfl : k = 1 ∨ k = 2 ∨ k = 3 := by omega
    all_goals decide
  · simp [deepB, firstV]
theorem newed_may {m : List Blk} {site ty d : Int} {l : List Int} (h : newI m site ty d l = 0) : mayM (m ++ [newB site ty d l]) = true := by
  obtain ⟨hy, hk, h1, h2, h3, h4, h5, h6⟩ := new_zero h
  have hy' := may_iff.1 hy
  rw [may_iff]
  refine ⟨by simp; omega, fun b hb => ?_⟩
  rw [List.mem_append] at hb
  rcases hb with hb | hb
  · exact ⟨(hy'.2 b hb).1, fun c hc => new_is_old ((hy'.2 b hb).2 c hc)⟩
  · simp at hb
    subst hb
    refine ⟨⟨h1, h2, h3, by simpa [newB] using h4, by simpa [newB] using h5⟩, fun c hc => ?_⟩
    simp only [newB, List.mem_map] at hc
    obtain ⟨k, hk', rfl⟩ := hc
    exact (first_is (List.all_eq_true.1 hk k hk')).1
theorem newed_life {m : List Blk} {site ty d : Int} {l : List Int} (h : newI m site ty d l = 0) (hl : lifeB m = true) : lifeB (m ++ [newB site ty d l]) = true := by
  obtain ⟨hy, hk, h1, h2, h3, h4, h5, h6⟩ := new_zero h
  have hy' := may_iff.1 hy
  rw [life_iff] at hl ⊢
  intro b hb ha c hc
  rw [List.mem_append] at hb
  rcases hb with hb | hb
  · rw [new_deep_old ((hy'.2 b hb).2 c hc)]
    exact hl b hb ha c hc
  · simp at hb
    subst hb
    simp only [newB, List.mem_map] at hc
    obtain ⟨k, hk', rfl⟩ := hc
    rw [(first_is (List.all_eq_true.1 hk k hk')).2]
    show ¬ d < 0
    omega

/-! ### Pop -/
theorem pop_zero {m : List Blk} {d : Int} (h : popI m d = 0) : mayM m = true ∧ 1 ≤ d := by
  unfold popI at h
  split at h
  · split at h
    · cases h
    · exact ⟨by assumption, by omega⟩
  · cases h
theorem popped_shape (m : List Blk) (d : Int) : Shape m (m.map (popB d)) := by
  refine ⟨by simp, fun i b hb => ⟨popB d b, by simp [hb], ?_, ?_⟩⟩
  · unfold popB; split <;> rfl
  · unfold popB; split <;> rfl
theorem popB_eq (d : Int) (b : Blk) : (popB d b).cells = b.cells ∧ (popB d b).dep = b.dep ∧ (popB d b).site = b.site ∧ (popB d b).ty = b.ty ∧ ((popB d b).alive = true → b.alive = true ∧ b.dep < d) := by
  unfold popB
  split
  · exact ⟨rfl, rfl, rfl, rfl, fun h => by cases h⟩
  · exact ⟨rfl, rfl, rfl, rfl, fun h => ⟨h, by omega⟩⟩
theorem popped_may {m : List Blk} {d : Int} (h : popI m d = 0) : mayM (m.map (popB d)) = true := by
  have hy := may_iff.1 (pop_zero h).1
  rw [may_iff]
  refine ⟨by simpa using hy.1, fun b hb => ?_⟩
  simp only [List.mem_map] at hb
  obtain ⟨b, hb, rfl⟩ := hb
  obtain ⟨e1, e2, e3, e4, _⟩ := popB_eq d b
  rw [e1, e2, e3, e4]
  exact ⟨(hy.2 b hb).1, fun c hc => by rw [(popped_shape m d).is]; exact (hy.2 b hb).2 c hc⟩
theorem popped_life {m : List Blk} {d : Int} (hl : lifeB m = true) : lifeB (m.map (popB d)) = true := by
  rw [life_iff] at hl ⊢
  intro b hb ha c hc
  simp only [List.mem_map] at hb
  obtain ⟨b, hb, rfl⟩ := hb
  obtain ⟨e1, e2, e3, e4, e5⟩ := popB_eq d b
  rw [e1] at hc
  rw [e2, (popped_shape m d).deep]
  exact hl b hb (e5 ha).1 c hc

end Go.Proofs.Ytmelamlngjflkaa
