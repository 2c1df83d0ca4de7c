/- Tarjan's knots, plainly: a state of three lists (what is known, in the order in which it was begun; what is open; the knots that are done), what holds of it, and what each step of the visit of a point leaves. -/
namespace Go.Proofs.Ytkmbjpgpkgeiaaa

inductive Reach (to : Nat → List Nat) : Nat → Nat → Prop
  | refl (a : Nat) : Reach to a a
  | step {a b c : Nat} : Reach to a b → c ∈ to b → Reach to a c

section
variable {to : Nat → List Nat} {n : Nat}

theorem Reach.trans {a b c : Nat} (h : Reach to a b) (g : Reach to b c) : Reach to a c := by
  induction g with
  | refl => exact h
  | step _ hc ih => exact .step ih hc
theorem Reach.one {a b : Nat} (h : b ∈ to a) : Reach to a b := .step (.refl a) h
theorem Reach.head {a b c : Nat} (h : b ∈ to a) (g : Reach to b c) : Reach to a c := (Reach.one h).trans g

structure St where
  ks : List Nat
  st : List Nat
  al : List (List Nat)

/-- When a point was begun. -/
def St.num (s : St) (x : Nat) : Nat := s.ks.idxOf x

structure Inv (to : Nat → List Nat) (n : Nat) (s : St) (G : List Nat) : Prop where
  nod : s.ks.Nodup
  lt : ∀ x ∈ s.ks, x < n
  sub : s.st.Sublist s.ks
  part : ∀ x ∈ s.ks, x ∈ s.st ∨ ∃ (i : Nat) (c : List Nat), s.al[i]? = some c ∧ x ∈ c
  alk : ∀ c ∈ s.al, ∀ x ∈ c, x ∈ s.ks ∧ x ∉ s.st
  uniq : ∀ (i j : Nat) (c d : List Nat) (x : Nat), s.al[i]? = some c → s.al[j]? = some d → x ∈ c → x ∈ d → i = j
  gst : ∀ g ∈ G, g ∈ s.st
  up : ∀ x ∈ s.st, ∃ g ∈ G, s.num g ≤ s.num x ∧ Reach to x g
  down : ∀ g ∈ G, ∀ x ∈ s.st, s.num g ≤ s.num x → Reach to g x
  bw : ∀ x ∈ s.ks, x ∉ G → ∀ y ∈ to x, y ∈ s.ks
  scc : ∀ c ∈ s.al, c ≠ [] ∧ ∀ x ∈ c, ∀ y ∈ c, Reach to x y
  ord : ∀ (i : Nat) (c : List Nat), s.al[i]? = some c → ∀ x ∈ c, ∀ y ∈ to x, ∃ (j : Nat) (d : List Nat), j ≤ i ∧ s.al[j]? = some d ∧ y ∈ d

theorem num_app {ks kn : List Nat} {x : Nat} (h : x ∈ ks) : (ks ++ kn).idxOf x = ks.idxOf x := by
  rw [List.idxOf_append, if_pos h]
theorem num_new {ks kn : List Nat} {x : Nat} (h : x ∉ ks) : (ks ++ kn).idxOf x = kn.idxOf x + ks.length := by
  rw [List.idxOf_append, if_neg h]
theorem num_lt {ks : List Nat} {x : Nat} (h : x ∈ ks) : ks.idxOf x < ks.length := List.idxOf_lt_length_of_mem h
theorem num_inj {ks : List Nat} {x y : Nat} (h : x ∈ ks) (e : ks.idxOf x = ks.idxOf y) (hy : y ∈ ks) : x = y := by
  have h1 := List.getElem_idxOf (num_lt h)
  have h2 := List.getElem_idxOf (num_lt hy)
  rw [← h1, ← h2]
  congr 1

/-- What the visit of a point leaves. -/
structure Post (to : Nat → List Nat) (n : Nat) (G : List Nat) (s : St) (a : Nat) (s' : St) (low : Nat) (kn new : List Nat) (an : List (List Nat)) : Prop where
  inv : Inv to n s' G
  ks : s'.ks = s.ks ++ kn
  st : s'.st = s.st ++ new
  al : s'.al = s.al ++ an
  mem : a ∈ s'.ks
  newk : ∀ x ∈ new, x ∈ kn
  res : low = n ∧ new = [] ∨ low < s'.num a ∧ (∃ y ∈ s.st, s'.num y = low ∧ Reach to a y) ∧ a ∈ new ∧ ∀ x ∈ new, ∀ y ∈ to x, y ∈ s.st → low ≤ s'.num y

/-- What holds while a point's arrows are gone through: j of them are done. -/
structure LInv (to : Nat → List Nat) (n : Nat) (G : List Nat) (s0 : St) (a : Nat) (j : Nat) (s : St) (low : Nat) (kn new : List Nat) (an : List (List Nat)) : Prop where
  inv : Inv to n s (a :: G)
  inv0 : Inv to n s0 G
  fresh : a ∉ s0.ks
  ks : s.ks = s0.ks ++ a :: kn
  st : s.st = s0.st ++ a :: new
  al : s.al = s0.al ++ an
  newk : ∀ x ∈ new, x ∈ kn
  lle : low ≤ s0.ks.length
  wit : ∃ y ∈ s.st, s.num y = low ∧ Reach to a y
  lb : ∀ x ∈ new, ∀ y ∈ to x, y ∈ s0.st → low ≤ s.num y
  arr : ∀ i, i < j → ∀ y, (to a)[i]? = some y → y ∈ s.ks ∧ (y ∈ s.st → low ≤ s.num y)

theorem Inv.st_ks {s : St} {G : List Nat} (h : Inv to n s G) {x : Nat} (hx : x ∈ s.st) : x ∈ s.ks := h.sub.subset hx

section
variable {G : List Nat} {s0 s s' : St} {a b j low low2 : Nat} {kn new kn2 new2 : List Nat} {an an2 : List (List Nat)}

theorem LInv.num_a (h : LInv to n G s0 a j s low kn new an) : s.num a = s0.ks.length := by
  unfold St.num
  rw [h.ks, num_new h.fresh]
  simp
theorem LInv.num0 (h : LInv to n G s0 a j s low kn new an) {x : Nat} (hx : x ∈ s0.ks) : s.num x = s0.num x := by
  unfold St.num
  rw [h.ks, num_app hx]
theorem LInv.a_ks (h : LInv to n G s0 a j s low kn new an) : a ∈ s.ks := by rw [h.ks]; simp
theorem LInv.a_st (h : LInv to n G s0 a j s low kn new an) : a ∈ s.st := by rw [h.st]; simp
theorem LInv.st0 (h : LInv to n G s0 a j s low kn new an) {x : Nat} (hx : x ∈ s0.st) : x ∈ s.st := by rw [h.st]; exact List.mem_append_left _ hx
/-- What was begun at the point itself or later does not stand lower. -/
theorem LInv.of_lt (h : LInv to n G s0 a j s low kn new an) {x : Nat} (hx : x ∈ s.st) (hl : s.num x < s0.ks.length) : x ∈ s0.st := by
  rw [h.st, List.mem_append] at hx
  rcases hx with hx | hx
  · exact hx
  · exfalso
    have hn : x ∉ s0.ks := by
      intro h0
      have hnd := h.inv.nod
      rw [h.ks] at hnd
      have hd := (List.nodup_append.1 hnd).2.2
      rcases List.mem_cons.1 hx with rfl | hx
      · exact h.fresh h0
      · exact hd x h0 x (List.mem_cons_of_mem _ (h.newk x hx)) rfl
    unfold St.num at hl
    rw [h.ks, num_new hn] at hl
    omega
theorem LInv.new_not0 (h : LInv to n G s0 a j s low kn new an) {x : Nat} (hx : x ∈ kn) : x ∉ s0.ks := by
  intro h0
  have hnd := h.inv.nod
  rw [h.ks] at hnd
  exact (List.nodup_append.1 hnd).2.2 x h0 x (List.mem_cons_of_mem _ hx) rfl

theorem LInv.start (h : Inv to n s0 G) (hf : a ∉ s0.ks) (ha : a < n) (hr : ∀ g ∈ G, Reach to g a) : LInv to n G s0 a 0 ⟨s0.ks ++ [a], s0.st ++ [a], s0.al⟩ s0.ks.length [] [] [] := by
  have hfs : a ∉ s0.st := fun hx => hf (h.st_ks hx)
  have e0 : ∀ x ∈ s0.ks, (St.num ⟨s0.ks ++ [a], s0.st ++ [a], s0.al⟩ x) = s0.num x := fun x hx => num_app hx
  have ea : (St.num ⟨s0.ks ++ [a], s0.st ++ [a], s0.al⟩ a) = s0.ks.length := by
    show (s0.ks ++ [a]).idxOf a = _
    rw [num_new hf]
    simp
  have hg : ∀ g ∈ G, g ∈ s0.ks := fun g hg => h.st_ks (h.gst g hg)
  refine ⟨⟨?_, ?_, ?_, ?_, ?_, ?_, ?_, ?_, ?_, ?_, ?_, ?_⟩, h, hf, rfl, rfl, by simp, by simp, Nat.le_refl _, ⟨a, by simp, ea, .refl a⟩, by simp, by simp⟩
  · show (s0.ks ++ [a]).Nodup
    rw [List.nodup_append]
    exact ⟨h.nod, by simp, fun x hx y hy e => by simp at hy; subst hy; subst e; exact hf hx⟩
  · intro x hx
    rcases List.mem_append.1 hx with hx | hx
    · exact h.lt x hx
    · simp at hx; omega
  · exact List.Sublist.append h.sub (List.Sublist.refl _)
  · intro x hx
    rcases List.mem_append.1 hx with hx | hx
    · rcases h.part x hx with h1 | h1
      · exact .inl (List.mem_append_left _ h1)
      · exact .inr h1
    · exact .inl (List.mem_append_right _ hx)
  · intro c hc x hx
    have h1 := h.alk c hc x hx
    refine ⟨List.mem_append_left _ h1.1, fun h2 => ?_⟩
    rcases List.mem_append.1 h2 with h2 | h2
    · exact h1.2 h2
    · simp at h2; subst h2; exact hf h1.1
  · exact h.uniq
  · intro g hg'
    rcases List.mem_cons.1 hg' with rfl | hg'
    · exact List.mem_append_right _ (by simp)
    · exact List.mem_append_left _ (h.gst g hg')
  · intro x hx
    rcases List.mem_append.1 hx with hx | hx
    · obtain ⟨g, h1, h2, h3⟩ := h.up x hx
      exact ⟨g, List.mem_cons_of_mem _ h1, by rw [e0 g (hg g h1), e0 x (h.st_ks hx)]; exact h2, h3⟩
    · simp at hx
      subst hx
      exact ⟨x, by simp, Nat.le_refl _, .refl x⟩
  · intro g hg1 x hx hle
    rcases List.mem_cons.1 hg1 with rfl | hg'
    · rcases List.mem_append.1 hx with hx | hx
      · rw [ea, e0 x (h.st_ks hx)] at hle
        have := num_lt (h.st_ks hx)
        unfold St.num at hle
        omega
      · simp at hx
        subst hx
        exact .refl x
    · rcases List.mem_append.1 hx with hx | hx
      · rw [e0 g (hg g hg'), e0 x (h.st_ks hx)] at hle
        exact h.down g hg' x hx hle
      · simp at hx
        subst hx
        exact hr g hg'
  · intro x hx hxg y hy
    rcases List.mem_append.1 hx with hx | hx
    · exact List.mem_append_left _ (h.bw x hx (fun e => hxg (List.mem_cons_of_mem _ e)) y hy)
    · simp at hx
      subst hx
      exact absurd (by simp) hxg
  · exact h.scc
  · exact h.ord

theorem LInv.known (h : LInv to n G s0 a j s low kn new an) (hb : (to a)[j]? = some b) (hk : b ∈ s.ks) (hs : b ∉ s.st) : LInv to n G s0 a (j + 1) s low kn new an := by
  refine { h with arr := fun i hi y hy => ?_ }
  by_cases e : i = j
  · subst e
    rw [hb] at hy
    injection hy with hy
    subst hy
    exact ⟨hk, fun h1 => absurd h1 hs⟩
  · exact h.arr i (by omega) y hy

theorem LInv.open (h : LInv to n G s0 a j s low kn new an) (hb : (to a)[j]? = some b) (hs : b ∈ s.st) : LInv to n G s0 a (j + 1) s (min low (s.num b)) kn new an := by
  refine { h with lle := Nat.le_trans (Nat.min_le_left _ _) h.lle, wit := ?_, lb := fun x hx y hy hys => Nat.le_trans (Nat.min_le_left _ _) (h.lb x hx y hy hys), arr := fun i hi y hy => ?_ }
  · by_cases e : low ≤ s.num b
    · rw [Nat.min_eq_left e]
      exact h.wit
    · rw [Nat.min_eq_right (by omega)]
      exact ⟨b, hs, rfl, .one (List.mem_of_getElem? hb)⟩
  · by_cases e : i = j
    · subst e
      rw [hb] at hy
      injection hy with hy
      subst hy
      exact ⟨h.inv.st_ks hs, fun _ => Nat.min_le_right _ _⟩
    · have := h.arr i (by omega) y hy
      exact ⟨this.1, fun h1 => Nat.le_trans (Nat.min_le_left _ _) (this.2 h1)⟩

theorem LInv.gray_lt (h : LInv to n G s0 a j s low kn new an) {g : Nat} (hg : g ∈ G) : s.num g < s0.ks.length := by
  rw [h.num0 (h.inv0.st_ks (h.inv0.gst g hg))]
  exact num_lt (h.inv0.st_ks (h.inv0.gst g hg))

theorem LInv.pre (h : LInv to n G s0 a j s low kn new an) (hb : b ∈ to a) : ∀ g ∈ a :: G, Reach to g b := by
  intro g hg
  refine .step ?_ hb
  rcases List.mem_cons.1 hg with rfl | hg'
  · exact .refl g
  · exact h.inv.down g hg a h.a_st (by rw [h.num_a]; exact Nat.le_of_lt (h.gray_lt hg'))

theorem LInv.deep (h : LInv to n G s0 a j s low kn new an) (hb : (to a)[j]? = some b) (hf : b ∉ s.ks) (hn : low ≤ n) (p : Post to n (a :: G) s b s' low2 kn2 new2 an2) :
    LInv to n G s0 a (j + 1) s' (min low low2) (kn ++ kn2) (new ++ new2) (an ++ an2) := by
  have e0 : ∀ x ∈ s.ks, s'.num x = s.num x := fun x hx => by unfold St.num; rw [p.ks, num_app hx]
  have hst : ∀ x ∈ s.st, x ∈ s'.st := fun x hx => by rw [p.st]; exact List.mem_append_left _ hx
  have hnot : ∀ x ∈ new2, x ∉ s.ks := by
    intro x hx h0
    have hnd := p.inv.nod
    rw [p.ks] at hnd
    exact (List.nodup_append.1 hnd).2.2 x h0 x (p.newk x hx) rfl
  have hmin : min low low2 ≤ low := Nat.min_le_left _ _
  have hlow : ∀ x ∈ new2, ∀ y ∈ to x, y ∈ s.st → min low low2 ≤ s'.num y := by
    intro x hx y hy hys
    rcases p.res with ⟨_, e⟩ | ⟨_, _, _, h4⟩
    · rw [e] at hx; cases hx
    · exact Nat.le_trans (Nat.min_le_right _ _) (h4 x hx y hy hys)
  refine ⟨p.inv, h.inv0, h.fresh, by rw [p.ks, h.ks]; simp, by rw [p.st, h.st]; simp, by rw [p.al, h.al]; simp, ?_, Nat.le_trans hmin h.lle, ?_, ?_, ?_⟩
  · intro x hx
    rcases List.mem_append.1 hx with hx | hx
    · exact List.mem_append_left _ (h.newk x hx)
    · exact List.mem_append_right _ (p.newk x hx)
  · rcases p.res with ⟨e, _⟩ | ⟨_, ⟨y, hy, hy2, hy3⟩, _, _⟩
    · rw [Nat.min_eq_left (by omega)]
      obtain ⟨y, hy, hy2, hy3⟩ := h.wit
      exact ⟨y, hst y hy, by rw [e0 y (h.inv.st_ks hy)]; exact hy2, hy3⟩
    · by_cases e : low ≤ low2
      · rw [Nat.min_eq_left e]
        obtain ⟨y, hy, hy2, hy3⟩ := h.wit
        exact ⟨y, hst y hy, by rw [e0 y (h.inv.st_ks hy)]; exact hy2, hy3⟩
      · rw [Nat.min_eq_right (by omega)]
        exact ⟨y, hst y hy, hy2, .head (List.mem_of_getElem? hb) hy3⟩
  · intro x hx y hy hys
    rcases List.mem_append.1 hx with hx | hx
    · rw [e0 y (h.inv.st_ks (h.st0 hys))]
      exact Nat.le_trans hmin (h.lb x hx y hy hys)
    · exact hlow x hx y hy (h.st0 hys)
  · intro i hi y hy
    by_cases e : i = j
    · subst e
      rw [hb] at hy
      injection hy with hy
      subst hy
      refine ⟨p.mem, fun h1 => ?_⟩
      rcases p.res with ⟨_, e⟩ | ⟨h2, _⟩
      · rw [p.st, e, List.append_nil] at h1
        exact absurd (h.inv.st_ks h1) hf
      · exact Nat.le_trans (Nat.min_le_right _ _) (Nat.le_of_lt h2)
    · obtain ⟨h1, h2⟩ := h.arr i (by omega) y hy
      refine ⟨by rw [p.ks]; exact List.mem_append_left _ h1, fun h3 => ?_⟩
      rw [p.st] at h3
      rcases List.mem_append.1 h3 with h3 | h3
      · rw [e0 y h1]
        exact Nat.le_trans hmin (h2 h3)
      · exact absurd h1 (hnot y h3)

/-- Behind the last arrow: the point stays open. -/
theorem LInv.stays (h : LInv to n G s0 a j s low kn new an) (hj : (to a).length ≤ j) (hl : low < s0.ks.length) : Post to n G s0 a s low (a :: kn) (a :: new) an := by
  have hall : ∀ y ∈ to a, y ∈ s.ks ∧ (y ∈ s.st → low ≤ s.num y) := by
    intro y hy
    obtain ⟨i, hi, e⟩ := List.getElem_of_mem hy
    exact h.arr i (by omega) y (by rw [List.getElem?_eq_getElem hi, e])
  have hsub : ∀ g ∈ G, g ∈ a :: G := fun g hg => List.mem_cons_of_mem _ hg
  obtain ⟨y, hy, hy2, hy3⟩ := h.wit
  have hy0 : y ∈ s0.st := h.of_lt hy (by omega)
  have hga : ∀ x ∈ s.st, s.num x < s0.ks.length → ∃ g ∈ G, s.num g ≤ s.num x ∧ Reach to x g := by
    intro x hx hlt
    obtain ⟨g, h1, h2, h3⟩ := h.inv.up x hx
    rcases List.mem_cons.1 h1 with rfl | h1
    · rw [h.num_a] at h2; omega
    · exact ⟨g, h1, h2, h3⟩
  refine ⟨{ h.inv with gst := fun g hg => h.inv.gst g (hsub g hg), up := ?_, down := fun g hg => h.inv.down g (hsub g hg), bw := ?_ }, h.ks, h.st, h.al, h.a_ks, ?_, .inr ⟨by rw [h.num_a]; exact hl, ⟨y, hy0, hy2, hy3⟩, by simp, ?_⟩⟩
  · intro x hx
    by_cases hlt : s.num x < s0.ks.length
    · exact hga x hx hlt
    · obtain ⟨g, h1, h2, h3⟩ := h.inv.up x hx
      rcases List.mem_cons.1 h1 with rfl | h1
      · obtain ⟨g2, h4, h5, h6⟩ := hga y hy (by omega)
        exact ⟨g2, h4, by omega, h3.trans (hy3.trans h6)⟩
      · exact ⟨g, h1, h2, h3⟩
  · intro x hx hxg y hy
    by_cases e : x = a
    · subst e
      exact (hall y hy).1
    · exact h.inv.bw x hx (fun h1 => by rcases List.mem_cons.1 h1 with h1 | h1; exact e h1; exact hxg h1) y hy
  · intro x hx
    rcases List.mem_cons.1 hx with rfl | hx
    · simp
    · exact List.mem_cons_of_mem _ (h.newk x hx)
  · intro x hx y hy hys
    rcases List.mem_cons.1 hx with rfl | hx
    · exact (hall y hy).2 (h.st0 hys)
    · exact h.lb x hx y hy hys

/-- Behind the last arrow: its knot is done. -/
theorem LInv.closes (h : LInv to n G s0 a j s low kn new an) (hj : (to a).length ≤ j) (hl : ¬ low < s0.ks.length) : Post to n G s0 a ⟨s.ks, s0.st, s.al ++ [a :: new]⟩ n (a :: kn) [] (an ++ [a :: new]) := by
  have hlow : low = s0.ks.length := by have := h.lle; omega
  subst hlow
  have hall : ∀ y ∈ to a, y ∈ s.ks ∧ (y ∈ s.st → s0.ks.length ≤ s.num y) := by
    intro y hy
    obtain ⟨i, hi, e⟩ := List.getElem_of_mem hy
    exact h.arr i (by omega) y (by rw [List.getElem?_eq_getElem hi, e])
  have hnum0 : ∀ x ∈ s0.st, s.num x < s0.ks.length := fun x hx => by
    rw [h.num0 (h.inv0.st_ks hx)]
    exact num_lt (h.inv0.st_ks hx)
  have hcst : ∀ x ∈ a :: new, x ∈ s.st ∧ x ∉ s0.st ∧ s.num a ≤ s.num x := by
    intro x hx
    have h1 : x ∈ s.st := by rw [h.st]; exact List.mem_append_right _ hx
    have h2 : x ∉ s0.ks := by
      rcases List.mem_cons.1 hx with rfl | hx
      · exact h.fresh
      · exact h.new_not0 (h.newk x hx)
    refine ⟨h1, fun e => h2 (h.inv0.st_ks e), ?_⟩
    rw [h.num_a]
    unfold St.num
    rw [h.ks, num_new h2]
    omega
  have hG : ∀ g ∈ a :: G, Reach to g a := by
    intro g hg
    rcases List.mem_cons.1 hg with rfl | hg'
    · exact .refl g
    · exact h.inv.down g hg a h.a_st (by rw [h.num_a]; exact Nat.le_of_lt (h.gray_lt hg'))
  have hmut : ∀ x ∈ a :: new, Reach to x a ∧ Reach to a x := by
    intro x hx
    obtain ⟨h1, h2, h3⟩ := hcst x hx
    obtain ⟨g, h4, h5, h6⟩ := h.inv.up x h1
    exact ⟨h6.trans (hG g h4), h.inv.down a (by simp) x h1 h3⟩
  have hout : ∀ x ∈ a :: new, ∀ y ∈ to x, y ∈ a :: new ∨ ∃ (i : Nat) (c : List Nat), s.al[i]? = some c ∧ y ∈ c := by
    intro x hx y hy
    have hyk : y ∈ s.ks := by
      rcases List.mem_cons.1 hx with rfl | hx'
      · exact (hall y hy).1
      · refine h.inv.bw x (h.inv.st_ks (hcst x hx).1) (fun e => ?_) y hy
        rcases List.mem_cons.1 e with rfl | e
        · have hnd := h.inv.nod
          rw [h.ks] at hnd
          exact (List.nodup_cons.1 (List.nodup_append.1 hnd).2.1).1 (h.newk x hx')
        · exact (hcst x hx).2.1 (h.inv0.gst x e)
    rcases h.inv.part y hyk with h1 | h1
    · refine .inl ?_
      have h2 := h1
      rw [h.st, List.mem_append] at h2
      rcases h2 with h2 | h2
      · exfalso
        have h3 := hnum0 y h2
        rcases List.mem_cons.1 hx with rfl | hx'
        · have := (hall y hy).2 h1; omega
        · have := h.lb x hx' y hy h2; omega
      · exact h2
    · exact .inr h1
  have hget : ∀ (i : Nat) (c : List Nat), (s.al ++ [a :: new])[i]? = some c → s.al[i]? = some c ∨ i = s.al.length ∧ c = a :: new := by
    intro i c hc
    by_cases hi : i < s.al.length
    · rw [List.getElem?_append_left hi] at hc
      exact .inl hc
    · rw [List.getElem?_append_right (by omega)] at hc
      have hi2 := (List.getElem?_eq_some_iff.1 hc).1
      simp at hi2
      have : i = s.al.length := by omega
      subst this
      simp at hc
      exact .inr ⟨rfl, hc.symm⟩
  have hmem : ∀ c ∈ s.al ++ [a :: new], c ∈ s.al ∨ c = a :: new := by
    intro c hc
    rcases List.mem_append.1 hc with hc | hc
    · exact .inl hc
    · exact .inr (by simpa using hc)
  have hold : ∀ (i : Nat) (c : List Nat), s.al[i]? = some c → (s.al ++ [a :: new])[i]? = some c := by
    intro i c hc
    rw [List.getElem?_append_left (List.getElem?_eq_some_iff.1 hc).1]
    exact hc
  have hlast : (s.al ++ [a :: new])[s.al.length]? = some (a :: new) := by simp
  refine ⟨⟨h.inv.nod, h.inv.lt, ?_, ?_, ?_, ?_, h.inv0.gst, ?_, ?_, ?_, ?_, ?_⟩, h.ks, by simp, by simp [h.al], h.a_ks, by simp, .inl ⟨rfl, rfl⟩⟩
  · have hsub := h.inv.sub
    rw [h.st] at hsub
    exact (List.sublist_append_left _ _).trans hsub
  · intro x hx
    rcases h.inv.part x hx with h1 | ⟨i, c, h1, h2⟩
    · rw [h.st, List.mem_append] at h1
      rcases h1 with h1 | h1
      · exact .inl h1
      · exact .inr ⟨_, _, hlast, h1⟩
    · exact .inr ⟨i, c, hold i c h1, h2⟩
  · intro c hc x hx
    rcases hmem c hc with hc | rfl
    · have := h.inv.alk c hc x hx
      exact ⟨this.1, fun e => this.2 (h.st0 e)⟩
    · exact ⟨h.inv.st_ks (hcst x hx).1, (hcst x hx).2.1⟩
  · intro i k c d x hi hk hxc hxd
    rcases hget i c hi with h1 | ⟨h1, h2⟩ <;> rcases hget k d hk with h3 | ⟨h3, h4⟩
    · exact h.inv.uniq i k c d x h1 h3 hxc hxd
    · subst h4
      exact absurd (hcst x hxd).1 (h.inv.alk c (List.mem_of_getElem? h1) x hxc).2
    · subst h2
      exact absurd (hcst x hxc).1 (h.inv.alk d (List.mem_of_getElem? h3) x hxd).2
    · omega
  · intro x hx
    obtain ⟨g, h1, h2, h3⟩ := h.inv.up x (h.st0 hx)
    rcases List.mem_cons.1 h1 with rfl | h1
    · rw [h.num_a] at h2
      have := hnum0 x hx
      omega
    · exact ⟨g, h1, h2, h3⟩
  · intro g hg x hx hle
    exact h.inv.down g (List.mem_cons_of_mem _ hg) x (h.st0 hx) hle
  · intro x hx hxg y hy
    by_cases e : x = a
    · subst e
      exact (hall y hy).1
    · exact h.inv.bw x hx (fun h1 => by rcases List.mem_cons.1 h1 with h1 | h1; exact e h1; exact hxg h1) y hy
  · intro c hc
    rcases hmem c hc with hc | rfl
    · exact h.inv.scc c hc
    · exact ⟨by simp, fun x hx y hy => (hmut x hx).1.trans (hmut y hy).2⟩
  · intro i c hi x hx y hy
    rcases hget i c hi with h1 | ⟨h1, h2⟩
    · obtain ⟨k, d, h3, h4, h5⟩ := h.inv.ord i c h1 x hx y hy
      exact ⟨k, d, h3, hold k d h4, h5⟩
    · subst h2
      subst h1
      rcases hout x hx y hy with h3 | ⟨k, d, h3, h4⟩
      · exact ⟨_, _, Nat.le_refl _, hlast, h3⟩
      · exact ⟨k, d, Nat.le_of_lt (List.getElem?_eq_some_iff.1 h3).1, hold k d h3, h4⟩
end
end
end Go.Proofs.Ytkmbjpgpkgeiaaa
