/- The plain law of knots: who has which head and which rank. -/
import Derived.Test.YtkmbjpgpkgeiaaaTj
namespace Go.Proofs.Ytkmbjpgpkgeiaaa
set_option linter.unusedVariables false
def Mut (to : Nat → List Nat) (a b : Nat) : Prop := Reach to a b ∧ Reach to b a
theorem Mut.symm {to : Nat → List Nat} {a b : Nat} (h : Mut to a b) : Mut to b a := ⟨h.2, h.1⟩
theorem Mut.refl (to : Nat → List Nat) (a : Nat) : Mut to a a := ⟨.refl a, .refl a⟩
theorem Mut.trans {to : Nat → List Nat} {a b c : Nat} (h : Mut to a b) (g : Mut to b c) : Mut to a c := ⟨h.1.trans g.1, g.2.trans h.2⟩
/-- m is the least of a's knot. -/
structure IsHead (to : Nat → List Nat) (a m : Nat) : Prop where
  mem : Mut to a m
  le : ∀ b, Mut to a b → m ≤ b
theorem IsHead.unique {to : Nat → List Nat} {a m k : Nat} (h : IsHead to a m) (g : IsHead to a k) : m = k := Nat.le_antisymm (h.le k g.mem) (g.le m h.mem)
theorem IsHead.same {to : Nat → List Nat} {a b m k : Nat} (h : IsHead to a m) (g : IsHead to b k) : m = k ↔ Mut to a b := by
  constructor
  · intro e
    subst e
    exact h.mem.trans g.mem.symm
  · intro e
    exact Nat.le_antisymm (h.le k (e.trans g.mem)) (g.le m (e.symm.trans h.mem))
theorem IsHead.self {to : Nat → List Nat} {a m : Nat} (h : IsHead to a m) : IsHead to m m := ⟨Mut.refl _ _, fun b hb => h.le b (h.mem.trans hb)⟩
theorem IsHead.lea {to : Nat → List Nat} {a m : Nat} (h : IsHead to a m) : m ≤ a := h.le a (Mut.refl _ _)
theorem reach_lt {to : Nat → List Nat} {n a b : Nat} (hlt : ∀ a b, b ∈ to a → b < n) (ha : a < n) (h : Reach to a b) : b < n := by
  induction h with
  | refl => exact ha
  | step _ hc _ => exact hlt _ _ hc

/-- r gives each point its knot's rank. -/
structure IsRanks (to : Nat → List Nat) (n : Nat) (r : Nat → Nat) : Prop where
  same : ∀ a b, a < n → Mut to a b → r a = r b
  less : ∀ a b, a < n → b ∈ to a → ¬ Mut to a b → r b + 1 ≤ r a
  tight : ∀ a, a < n → r a = 0 ∨ ∃ x b, Mut to a x ∧ b ∈ to x ∧ ¬ Mut to x b ∧ r a = r b + 1
theorem ranks_le {to : Nat → List Nat} {n : Nat} {r q : Nat → Nat} (hlt : ∀ a b, b ∈ to a → b < n) (h : IsRanks to n r) (g : IsRanks to n q) : ∀ (k a : Nat), a < n → r a ≤ k → r a ≤ q a := by
  intro k
  induction k with
  | zero => intro a _ h0; omega
  | succ k ih =>
    intro a ha hk
    rcases h.tight a ha with h0 | ⟨x, b, hx, hb, hn, e⟩
    · omega
    · have hxn : x < n := reach_lt hlt ha hx.1
      have h1 := ih b (hlt x b hb) (by omega)
      have h2 := g.less x b hxn hb hn
      have h3 := g.same a x ha hx
      omega
theorem ranks_unique {to : Nat → List Nat} {n : Nat} {r q : Nat → Nat} (hlt : ∀ a b, b ∈ to a → b < n) (h : IsRanks to n r) (g : IsRanks to n q) (a : Nat) (ha : a < n) : r a = q a :=
  Nat.le_antisymm (ranks_le hlt h g _ a ha (Nat.le_refl _)) (ranks_le hlt g h _ a ha (Nat.le_refl _))

def Plc (al : List (List Nat)) (x i : Nat) : Prop := ∃ c, al[i]? = some c ∧ x ∈ c
section
variable {to : Nat → List Nat} {n : Nat} {s : St} {x y a b i j : Nat}
theorem Inv.st_nil (h : Inv to n s []) : s.st = [] := by
  cases e : s.st with
  | nil => rfl
  | cons x r =>
    obtain ⟨g, hg, _⟩ := h.up x (by rw [e]; simp)
    cases hg
theorem Inv.plc (h : Inv to n s []) (hx : x ∈ s.ks) : ∃ i, Plc s.al x i := by
  rcases h.part x hx with h1 | ⟨i, c, h1, h2⟩
  · rw [h.st_nil] at h1
    cases h1
  · exact ⟨i, c, h1, h2⟩
theorem Inv.plc_u (h : Inv to n s []) (hi : Plc s.al x i) (hj : Plc s.al x j) : i = j := by
  obtain ⟨c, h1, h2⟩ := hi
  obtain ⟨d, h3, h4⟩ := hj
  exact h.uniq i j c d x h1 h3 h2 h4
theorem Inv.plc_lt (hi : Plc s.al x i) : i < s.al.length := by
  obtain ⟨c, h1, _⟩ := hi
  exact (List.getElem?_eq_some_iff.1 h1).1
theorem Inv.plc_arrow (h : Inv to n s []) (hi : Plc s.al x i) (hb : b ∈ to x) : ∃ j, j ≤ i ∧ Plc s.al b j := by
  obtain ⟨c, h1, h2⟩ := hi
  obtain ⟨j, d, h3, h4, h5⟩ := h.ord i c h1 x h2 b hb
  exact ⟨j, h3, d, h4, h5⟩
theorem Inv.plc_reach (h : Inv to n s []) (hr : Reach to x y) (hi : Plc s.al x i) : ∃ j, j ≤ i ∧ Plc s.al y j := by
  induction hr with
  | refl => exact ⟨i, Nat.le_refl _, hi⟩
  | step _ hc ih =>
    obtain ⟨j, h1, h2⟩ := ih
    obtain ⟨k, h3, h4⟩ := h.plc_arrow h2 hc
    exact ⟨k, Nat.le_trans h3 h1, h4⟩
theorem Inv.plc_mut (h : Inv to n s []) (hi : Plc s.al x i) (hj : Plc s.al y j) : i = j ↔ Mut to x y := by
  constructor
  · intro e
    subst e
    obtain ⟨c, h1, h2⟩ := hi
    obtain ⟨d, h3, h4⟩ := hj
    rw [h1] at h3
    injection h3 with h3
    subst h3
    have := (h.scc c (List.mem_of_getElem? h1)).2
    exact ⟨this x h2 y h4, this y h4 x h2⟩
  · rintro ⟨h1, h2⟩
    obtain ⟨j', h3, h4⟩ := h.plc_reach h1 hi
    obtain ⟨i', h5, h6⟩ := h.plc_reach h2 hj
    have := h.plc_u hj h4
    have := h.plc_u hi h6
    omega
theorem Inv.arrow_lt (h : Inv to n s []) (hi : Plc s.al x i) (hb : b ∈ to x) (hj : Plc s.al b j) : j ≤ i := by
  obtain ⟨k, h1, h2⟩ := h.plc_arrow hi hb
  rw [h.plc_u hj h2]
  exact h1
theorem Inv.head (h : Inv to n s []) (hlt : ∀ a b, b ∈ to a → b < n) (hk : ∀ x, x < n → x ∈ s.ks) {c : List Nat} {m : Nat} (hc : s.al[i]? = some c) (ha : a ∈ c) (hm : m ∈ c) (hl : ∀ x ∈ c, m ≤ x) : IsHead to a m := by
  have han : a < n := h.lt a (h.alk c (List.mem_of_getElem? hc) a ha).1
  refine ⟨(h.plc_mut ⟨c, hc, ha⟩ ⟨c, hc, hm⟩).1 rfl, fun b hb => ?_⟩
  obtain ⟨j, d, h1, h2⟩ := h.plc (hk b (reach_lt hlt han hb.1))
  have e := (h.plc_mut ⟨c, hc, ha⟩ ⟨d, h1, h2⟩).2 hb
  subst e
  rw [hc] at h1
  injection h1 with h1
  subst h1
  exact hl b h2

/-! ### Ranks of knots, knot by knot -/
def Done (al : List (List Nat)) (R : Nat → Nat) (ps : List (Nat × Nat)) (k : Nat) : Prop :=
  (∀ p ∈ ps, ∀ j, Plc al p.2 j → j ≠ k → R j + 1 ≤ R k) ∧ (R k = 0 ∨ ∃ p ∈ ps, ∃ j, Plc al p.2 j ∧ j ≠ k ∧ R k = R j + 1)
def pairsOf (to : Nat → List Nat) (c : List Nat) : List (Nat × Nat) := c.flatMap (fun a => (to a).map (fun b => (a, b)))
theorem mem_pairs {c : List Nat} {p : Nat × Nat} : p ∈ pairsOf to c ↔ p.1 ∈ c ∧ p.2 ∈ to p.1 := by
  simp only [pairsOf, List.mem_flatMap, List.mem_map]
  constructor
  · rintro ⟨a, h1, b, h2, rfl⟩
    exact ⟨h1, h2⟩
  · rintro ⟨h1, h2⟩
    exact ⟨p.1, h1, p.2, h2, rfl⟩
theorem pairs_more (c : List Nat) (j : Nat) (hj : c[j]? = some a) : pairsOf to (c.take (j + 1)) = pairsOf to (c.take j) ++ (to a).map (fun b => (a, b)) := by
  obtain ⟨h, e⟩ := List.getElem?_eq_some_iff.1 hj
  rw [List.take_succ_eq_append_getElem h, e]
  simp [pairsOf]
structure Mid (to : Nat → List Nat) (al : List (List Nat)) (R : Nat → Nat) (ps : List (Nat × Nat)) (k : Nat) : Prop where
  done : ∀ i c, i < k → al[i]? = some c → Done al R (pairsOf to c) i
  cur : Done al R ps k
  zero : ∀ i, k < i → R i = 0
  bnd : ∀ i, R i ≤ i
def updR (R : Nat → Nat) (k v : Nat) : Nat → Nat := fun i => if i = k then v else R i
theorem updR_self (R : Nat → Nat) (k v : Nat) : updR R k v k = v := by simp [updR]
theorem updR_ne (R : Nat → Nat) {k i : Nat} (v : Nat) (h : i ≠ k) : updR R k v i = R i := by simp [updR, h]
theorem Mid.start (al : List (List Nat)) : Mid to al (fun _ => 0) [] 0 := ⟨fun i c h => by omega, ⟨by simp, .inl rfl⟩, fun _ _ => rfl, fun _ => Nat.zero_le _⟩
theorem Mid.skip {R : Nat → Nat} {ps : List (Nat × Nat)} {k : Nat} (h : Inv to n s []) (m : Mid to s.al R ps k) (hb : Plc s.al b k) : Mid to s.al R (ps ++ [(a, b)]) k := by
  refine ⟨m.done, ⟨fun p hp j hj hne => ?_, ?_⟩, m.zero, m.bnd⟩
  · rw [List.mem_append] at hp
    rcases hp with hp | hp
    · exact m.cur.1 p hp j hj hne
    · simp at hp
      subst hp
      exact absurd (h.plc_u hj hb) hne
  · rcases m.cur.2 with h0 | ⟨p, hp, r⟩
    · exact .inl h0
    · exact .inr ⟨p, List.mem_append_left _ hp, r⟩
theorem Mid.step {R : Nat → Nat} {ps : List (Nat × Nat)} {k : Nat} (h : Inv to n s []) (m : Mid to s.al R ps k) (ha : Plc s.al a k) (hab : b ∈ to a) (hb : Plc s.al b j) (hne : j ≠ k) : Mid to s.al (updR R k (max (R k) (R j + 1))) (ps ++ [(a, b)]) k := by
  have hjk : j < k := by
    have := h.arrow_lt ha hab hb
    omega
  have hRj : updR R k (max (R k) (R j + 1)) j = R j := updR_ne _ _ hne
  refine ⟨fun i c hi hc => ?_, ⟨fun p hp q hq hqk => ?_, ?_⟩, fun i hi => ?_, fun i => ?_⟩
  · obtain ⟨d1, d2⟩ := m.done i c hi hc
    have hle : ∀ p ∈ pairsOf to c, ∀ q, Plc s.al p.2 q → q ≠ k := fun p hp q hq => by
      obtain ⟨h1, h2⟩ := mem_pairs.1 hp
      have := h.arrow_lt ⟨c, hc, h1⟩ h2 hq
      omega
    refine ⟨fun p hp q hq hqi => ?_, ?_⟩
    · rw [updR_ne _ _ (hle p hp q hq), updR_ne _ _ (by omega)]
      exact d1 p hp q hq hqi
    · rw [updR_ne _ _ (by omega)]
      rcases d2 with d2 | ⟨p, hp, q, hq, hqi, e⟩
      · exact .inl d2
      · exact .inr ⟨p, hp, q, hq, hqi, by rw [updR_ne _ _ (hle p hp q hq)]; exact e⟩
  · rw [updR_self, updR_ne _ _ hqk]
    rw [List.mem_append] at hp
    rcases hp with hp | hp
    · have := m.cur.1 p hp q hq hqk
      omega
    · simp at hp
      subst hp
      have := h.plc_u hq hb
      subst this
      omega
  · rw [updR_self]
    by_cases hm : R j + 1 ≤ R k
    · have e : max (R k) (R j + 1) = R k := by omega
      rw [e]
      rcases m.cur.2 with h0 | ⟨p, hp, q, hq, hqk, e2⟩
      · exact .inl h0
      · exact .inr ⟨p, List.mem_append_left _ hp, q, hq, hqk, by rw [updR_ne _ _ hqk]; exact e2⟩
    · exact .inr ⟨(a, b), by simp, j, hb, hne, by rw [hRj]; omega⟩
  · rw [updR_ne _ _ (by omega)]
    exact m.zero i hi
  · by_cases e : i = k
    · subst e
      rw [updR_self]
      have := m.bnd i
      have := m.bnd j
      omega
    · rw [updR_ne _ _ e]
      exact m.bnd i
theorem Mid.next {R : Nat → Nat} {k : Nat} {c : List Nat} (m : Mid to s.al R (pairsOf to c) k) (hc : s.al[k]? = some c) : Mid to s.al R [] (k + 1) := by
  refine ⟨fun i d hi hd => ?_, ⟨by simp, .inl (m.zero _ (by omega))⟩, fun i hi => m.zero i (by omega), m.bnd⟩
  by_cases e : i = k
  · subst e
    rw [hc] at hd
    injection hd with hd
    subst hd
    exact m.cur
  · exact m.done i d (by omega) hd
theorem Mid.ends {R : Nat → Nat} (h : Inv to n s []) (hlt : ∀ a b, b ∈ to a → b < n) (hk : ∀ x, x < n → x ∈ s.ks) (m : Mid to s.al R [] s.al.length) {r : Nat → Nat} (hr : ∀ a i, Plc s.al a i → r a = R i) : IsRanks to n r := by
  refine ⟨fun a b ha hm => ?_, fun a b ha hb hm => ?_, fun a ha => ?_⟩
  · obtain ⟨i, hi⟩ := h.plc (hk a ha)
    obtain ⟨j, hj⟩ := h.plc (hk b (reach_lt hlt ha hm.1))
    rw [hr a i hi, hr b j hj, (h.plc_mut hi hj).2 hm]
  · obtain ⟨i, c, hc, hac⟩ := h.plc (hk a ha)
    obtain ⟨j, hj⟩ := h.plc (hk b (hlt a b hb))
    have hi : Plc s.al a i := ⟨c, hc, hac⟩
    have hne : j ≠ i := fun e => hm ((h.plc_mut hi hj).1 e.symm)
    rw [hr a i hi, hr b j hj]
    exact (m.done i c (Inv.plc_lt hi) hc).1 (a, b) (mem_pairs.2 ⟨hac, hb⟩) j hj hne
  · obtain ⟨i, c, hc, hac⟩ := h.plc (hk a ha)
    have hi : Plc s.al a i := ⟨c, hc, hac⟩
    rcases (m.done i c (Inv.plc_lt hi) hc).2 with h0 | ⟨p, hp, j, hj, hne, e⟩
    · left
      rw [hr a i hi, h0]
    · right
      obtain ⟨h1, h2⟩ := mem_pairs.1 hp
      have hx : Plc s.al p.1 i := ⟨c, hc, h1⟩
      exact ⟨p.1, p.2, (h.plc_mut hi hx).1 rfl, h2, fun hm => hne ((h.plc_mut hx hj).2 hm).symm, by rw [hr a i hi, hr p.2 j hj, e]⟩
end

/-- The list of all heads. -/
def HeadL (to : Nat → List Nat) (n : Nat) (hs : List Int) : Prop := hs.length = n ∧ ∀ a, a < n → ∃ m : Nat, hs[a]? = some (m : Int) ∧ IsHead to a m
def RankL (to : Nat → List Nat) (n : Nat) (rs : List Int) : Prop := rs.length = n ∧ ∃ r, IsRanks to n r ∧ (∀ a, a < n → rs[a]? = some ((r a : Nat) : Int)) ∧ ∀ a, a < n → r a ≤ n
theorem HeadL.unique {to : Nat → List Nat} {n : Nat} {x y : List Int} (h : HeadL to n x) (g : HeadL to n y) : x = y := by
  apply List.ext_getElem?
  intro i
  by_cases hi : i < n
  · obtain ⟨m, h1, h2⟩ := h.2 i hi
    obtain ⟨k, h3, h4⟩ := g.2 i hi
    rw [h1, h3, h2.unique h4]
  · rw [List.getElem?_eq_none (by rw [h.1]; omega), List.getElem?_eq_none (by rw [g.1]; omega)]
theorem RankL.unique {to : Nat → List Nat} {n : Nat} {x y : List Int} (hlt : ∀ a b, b ∈ to a → b < n) (h : RankL to n x) (g : RankL to n y) : x = y := by
  obtain ⟨h0, r, h1, h2, _⟩ := h
  obtain ⟨g0, q, g1, g2, _⟩ := g
  apply List.ext_getElem?
  intro i
  by_cases hi : i < n
  · rw [h2 i hi, g2 i hi, ranks_unique hlt h1 g1 i hi]
  · rw [List.getElem?_eq_none (by omega), List.getElem?_eq_none (by omega)]

end Go.Proofs.Ytkmbjpgpkgeiaaa
