/- The arguments opened: a memory of blocks, a value, a list of kinds, as they lie when the law is called; and the row's last step: a law that answers true, and turns nothing that was there, meets its row. -/
import Derived.WalkKit
import Derived.ProofKit
import Derived.OpenShut
import Derived.Below
import Derived.Carry
import Derived.Deep.Slices
import Derived.Deep.Fields
import Derived.ChangeSame
import Derived.Lib.SmallJoins
import Derived.Test.YtmelamlngjflkaaRows
import Derived.Test.YtmelamlngjflkaaRep
namespace Go.Proofs.Ytmelamlngjflkaa
set_option linter.unusedVariables false
open Go.Joins Go.ChangeShapes Go.WideShapes Go.ChangeAt Go.RowKit Go.Deep

section
variable {H : Type} {enc : TypeId × Value → H} {P : Program}

theorem stays {W W' : World} (hl : laidOutB P = true) (hb : Below W.heap.size W W') : ∀ {ts : List TypeId} {vs : List Value} {ds : List (DataW H)} {p : List MemPlace},
    (∀ t ∈ ts, P.readableRec t = true ∧ t < P.types.size) → (∀ x ∈ p, x.block < W.heap.size) → DataW.TrodAll enc P W 0 (fun _ => true) true ts vs ds p →
    DataW.TrodAll enc P W' 0 (fun b => decide (b < W.heap.size)) true ts vs ds p
  | [], _, _, _, _, _, h => by
    obtain ⟨rfl, rfl, rfl⟩ := trodAll_nil h
    exact trodAll_mk0
  | t :: ts, _, _, _, ht, hp, h => by
    obtain ⟨v, vs1, d, ds1, a, b, rfl, rfl, rfl, h1, h2⟩ := trodAll_cons h
    obtain ⟨hr, hs⟩ := ht t (by simp)
    exact trodAll_cons_mk (Below.trod hl hr hs h1 hb fun x hx => hp x (by simp [hx])) (stays hl hb (fun u hu => ht u (by simp [hu])) (fun x hx => hp x (by simp [hx])) h2)

theorem law_post {f : Func} {s : ChangeSpec} {W W' : World} {args : Array Value} {ds gs : List (DataW H)} {before : List MemPlace} {tb : TypeId}
    (hl : laidOutB P = true) (hts : ∀ t ∈ f.params.toList, P.readableRec t = true ∧ t < P.types.size) (hvars : s.vars = []) (hr : f.resultTypes = #[tb]) (htb : P.underlying tb = some .bool)
    (hfn : s.fn H ds = { results := [.lit (.bool true)], args := ds })
    (hW : DataW.Whole enc P f.params.toList s.vars false W args.toList ds gs before) (hb : Below W.heap.size W W') :
    s.post enc P f false true false false W args (.bool true) W' := by
  have hW' := hW
  obtain ⟨p, q, hA, hV, rfl, hfz, hnd⟩ := hW
  have hlt : ∀ x ∈ p, x.block < W.heap.size := fun x hx => hW'.lt x (by simp [hx])
  obtain ⟨rfl, rfl⟩ : gs = [] ∧ q = [] := by rw [hvars] at hV; exact trodVars_none hV
  refine ⟨ds, [], _, [], p, [], hW', ?_, ?_, ?_, hb.frame _, fun h => by cases h⟩
  · rw [List.append_nil, hfn, hr]
    exact trodAll_cons_mk (shut_bool htb true) trodAll_mk0
  · rw [List.append_nil, hfn]
    exact stays hl hb hts hlt hA
  · rw [hvars, List.append_nil, hfn]
    rfl
end


theorem bs_nil' (w : World) : BsAt w (.slice none 0 0) [] := ⟨none, 0, rfl, by decide, fun i b h => by simp at h⟩

section
variable {H : Type} {enc : TypeId × Value → H} {w : World} {spare : Nat → Bool} {held : Bool}

theorem at_none {w : World} {a : Addr} {v : Value} (h : w.cell? a = some v) : a = ⟨a.block, a.off, none⟩ := by
  obtain ⟨b, o, s⟩ := a
  cases s with
  | none => rfl
  | some s =>
    unfold World.cell? at h
    split at h <;> simp_all
theorem add_none {a : Addr} {w : World} {v : Value} (h : w.cell? (a.add 0) = some v) : ∀ k, a.add k = ⟨a.block, a.off + k, none⟩ := by
  have e : a.add 0 = a := by simp [Addr.add]
  rw [e] at h
  have := at_none h
  intro k
  unfold Addr.add
  split
  · rename_i h0
    subst h0
    rw [this]
    simp
  · rfl
theorem add_row {a : Addr} {w : World} {v : Value} {k : Nat} (hk : 0 < k) (h : ∃ j u, w.cell? ((a.add j)) = some u ∧ j = 0) : ∀ q, a.add q = ⟨a.block, a.off + q, none⟩ := by
  obtain ⟨j, u, hu, rfl⟩ := h
  exact add_none hu

theorem open_val {b0 base : Nat} {v : Value} {d : DataW H} {p : List MemPlace} (hv : Value.okWide Try.prog w .any b0 24 v) (h : DataW.Trod enc Try.prog w base spare held 24 v d p) :
    ∃ k n b o : Int, v = .agg #[.int .u8 k, .int .i64 n, .int .i64 b, .int .i64 o] ∧ (Lit.int .u8 k).wf = true ∧ (Lit.int .i64 n).wf = true ∧ (Lit.int .i64 b).wf = true ∧ (Lit.int .i64 o).wf = true := by
  obtain ⟨v0, v1, v2, v3, y0, y1, y2, y3, n, rfl, _, _, h0, h1, h2, h3⟩ := open_agg4 Try.underlying24 (by kernel_rfl) (by kernel_rfl) hv h
  obtain ⟨a0, e0, _, w0⟩ := DataW.trod_int Try.underlying5 h0
  obtain ⟨a1, e1, _, w1⟩ := DataW.trod_int Try.underlying2 h1
  obtain ⟨a2, e2, _, w2⟩ := DataW.trod_int Try.underlying3 h2
  obtain ⟨a3, e3, _, w3⟩ := DataW.trod_int Try.underlying3 h3
  injection e0 with e0
  injection e1 with e1
  injection e2 with e2
  injection e3 with e3
  subst e0 e1 e2 e3
  exact ⟨a0, a1, a2, a3, rfl, w0, w1, w2, w3⟩

theorem cells_at {base : Nat} {a : Addr} {n : Nat} {cs : List Value} (h : w.cells? base a n = some cs) : cs.length = n ∧ ∀ j, j < n → w.cell? (a.add j) = cs[j]? := by
  obtain ⟨_, h1, h2⟩ := World.cells?_some h
  exact ⟨h1, h2⟩

/-- A list of values that is read. -/
theorem open_vals {base fuel : Nat} {v : Value} {x : DataW H × List MemPlace} (h : DataW.trod enc Try.prog w base spare held fuel 37 [v] = some x) : ∃ l, VsAt w v l := by
  rcases open_slice Try.underlying37 h with ⟨hc, _⟩ | ⟨a, len, cap, m, n, D, Pl, hcs, hb, hl, hm, hmm, hx, hi⟩
  · injection hc with hc
    subst hc
    exact ⟨[], none, 0, rfl, by simp, fun k x hk => by simp at hk⟩
  injection hcs with hcs
  subst hcs
  have hlm : len ≤ m := by rw [hmm]; split <;> omega
  have hC : Try.prog.cellsOf 24 = 4 := by kernel_rfl
  have key : ∀ i, i < len → ∃ x : Val, VAt w a.block (a.off + i * 4) x ∧ (∀ k, a.add k = ⟨a.block, a.off + k, none⟩) := by
    intro i hil
    have hadd : ∀ k, a.add k = ⟨a.block, a.off + k, none⟩ := by
      obtain ⟨cs0, hc0, _⟩ := hi 0 (by omega)
      rw [hC, Nat.zero_mul] at hc0
      obtain ⟨hlen0, hat0⟩ := cells_at hc0
      have h00 := hat0 0 (by omega)
      rw [Go.Deep.add_add, List.getElem?_eq_getElem (by omega)] at h00
      exact add_none h00
    obtain ⟨cs', hc, ht⟩ := hi i (by omega)
    rw [hC] at hc
    obtain ⟨hlen, hat⟩ := cells_at hc
    obtain ⟨xs, n', _, _, _, hxl, hf⟩ := DataW.trod_struct Try.underlying24 ht
    match cs', hlen with
    | [c0, c1, c2, c3], _ =>
      have C1 : Try.prog.cellsOf 5 = 1 := by kernel_rfl
      have C2 : Try.prog.cellsOf 2 = 1 := by kernel_rfl
      have C3 : Try.prog.cellsOf 3 = 1 := by kernel_rfl
      have t0 := hf 0 _ rfl
      have t1 := hf 1 _ rfl
      have t2 := hf 2 _ rfl
      have t3 := hf 3 _ rfl
      change DataW.trod enc Try.prog w base spare held n' 5 (([c0, c1, c2, c3].drop 0).take (Try.prog.cellsOf 5)) = xs[0]? at t0
      rw [C1] at t0
      change DataW.trod enc Try.prog w base spare held n' 5 [c0] = xs[0]? at t0
      change DataW.trod enc Try.prog w base spare held n' 2 (([c0, c1, c2, c3].drop 1).take (Try.prog.cellsOf 2)) = xs[1]? at t1
      rw [C2] at t1
      change DataW.trod enc Try.prog w base spare held n' 2 [c1] = xs[1]? at t1
      change DataW.trod enc Try.prog w base spare held n' 3 (([c0, c1, c2, c3].drop 2).take (Try.prog.cellsOf 3)) = xs[2]? at t2
      rw [C3] at t2
      change DataW.trod enc Try.prog w base spare held n' 3 [c2] = xs[2]? at t2
      change DataW.trod enc Try.prog w base spare held n' 3 (([c0, c1, c2, c3].drop 3).take (Try.prog.cellsOf 3)) = xs[3]? at t3
      rw [C3] at t3
      change DataW.trod enc Try.prog w base spare held n' 3 [c3] = xs[3]? at t3
      have g : ∀ {fu : Nat} {ty : TypeId} {k : IntKind} {c : Value} {y : Option (DataW H × List MemPlace)}, y.isSome → Try.prog.underlying ty = some (.int k) → DataW.trod enc Try.prog w base spare held fu ty [c] = y → ∃ n, c = .int k n := by
        intro fu ty k c y hy hu ht
        obtain ⟨y', hy'⟩ := Option.isSome_iff_exists.1 hy
        rw [hy'] at ht
        obtain ⟨n, e, _⟩ := DataW.trod_int hu ht
        injection e with e
        exact ⟨n, e⟩
      have hxl : xs.length = 4 := hxl
      obtain ⟨n0, rfl⟩ := g (by rw [List.getElem?_eq_getElem (by omega)]; rfl) Try.underlying5 t0
      obtain ⟨n1, rfl⟩ := g (by rw [List.getElem?_eq_getElem (by omega)]; rfl) Try.underlying2 t1
      obtain ⟨n2, rfl⟩ := g (by rw [List.getElem?_eq_getElem (by omega)]; rfl) Try.underlying3 t2
      obtain ⟨n3, rfl⟩ := g (by rw [List.getElem?_eq_getElem (by omega)]; rfl) Try.underlying3 t3
      have e0 := hat 0 (by omega)
      have e1 := hat 1 (by omega)
      have e2 := hat 2 (by omega)
      have e3 := hat 3 (by omega)
      rw [Go.Deep.add_add, hadd] at e0 e1 e2 e3
      exact ⟨⟨n0, n1, n2, n3⟩, ⟨by simpa using e0, by simpa [Nat.add_assoc] using e1, by simpa [Nat.add_assoc] using e2, by simpa [Nat.add_assoc] using e3⟩, hadd⟩
  haveI : Inhabited Val := ⟨⟨0, 0, 0, 0⟩⟩
  obtain ⟨f, hf⟩ := choose_lt key
  refine ⟨(List.range len).map f, some a, cap, by simp, by simp; exact Nat.le_trans hl (by simpa [maxLen] using hm), fun k x hk => ?_⟩
  have hkl : k < len := by simpa using (List.getElem?_eq_some_iff.1 hk).1
  have ex : x = f k := by
    rw [List.getElem?_map, List.getElem?_range hkl] at hk
    simpa using hk.symm
  subst ex
  obtain ⟨h1, h2⟩ := hf k hkl
  refine ⟨a.block, a.off, ?_, h1⟩
  have := h2 0
  rw [show a.add 0 = a by simp [Addr.add]] at this
  exact congrArg some this

/-- A memory of blocks that is read. -/
theorem open_blks {b0 base : Nat} {v : Value} {d : DataW H} {p : List MemPlace} (hv : Value.okWide Try.prog w .any b0 22 v) (h : DataW.Trod enc Try.prog w base spare held 22 v d p) : ∃ m, BsAt w v m := by
  obtain ⟨a0, len0, cap0, rfl⟩ := okWide_slice Try.underlying22 hv
  obtain ⟨fuel, h⟩ := h
  have h : DataW.trod enc Try.prog w base spare held fuel 22 [.slice a0 len0 cap0] = some (d, p) := by simpa [Value.cells] using h
  rcases open_slice Try.underlying22 h with ⟨hc, _⟩ | ⟨a, len, cap, m, n, D, Pl, hcs, hb, hl, hm, hmm, hx, hi⟩
  · injection hc with hc
    rw [hc]
    exact ⟨[], bs_nil' w⟩
  injection hcs with hcs
  rw [hcs]
  have hlm : len ≤ m := by rw [hmm]; split <;> omega
  have hC : Try.prog.cellsOf 39 = 5 := by kernel_rfl
  have key : ∀ i, i < len → ∃ x : Blk, BAt w a.block (a.off + i * 5) x ∧ (∀ k, a.add k = ⟨a.block, a.off + k, none⟩) := by
    intro i hil
    have hadd : ∀ k, a.add k = ⟨a.block, a.off + k, none⟩ := by
      obtain ⟨cs0, hc0, _⟩ := hi 0 (by omega)
      rw [hC, Nat.zero_mul] at hc0
      obtain ⟨hlen0, hat0⟩ := cells_at hc0
      have h00 := hat0 0 (by omega)
      rw [Go.Deep.add_add, List.getElem?_eq_getElem (by omega)] at h00
      exact add_none h00
    obtain ⟨cs', hc, ht⟩ := hi i (by omega)
    rw [hC] at hc
    obtain ⟨hlen, hat⟩ := cells_at hc
    obtain ⟨xs, n', _, _, _, hxl, hf⟩ := DataW.trod_struct Try.underlying39 ht
    match cs', hlen with
    | [c0, c1, c2, c3, c4], _ =>
      have C3 : Try.prog.cellsOf 3 = 1 := by kernel_rfl
      have C4 : Try.prog.cellsOf 4 = 1 := by kernel_rfl
      have C37 : Try.prog.cellsOf 37 = 1 := by kernel_rfl
      have t0 := hf 0 _ rfl
      have t1 := hf 1 _ rfl
      have t2 := hf 2 _ rfl
      have t3 := hf 3 _ rfl
      have t4 := hf 4 _ rfl
      change DataW.trod enc Try.prog w base spare held n' 3 (([c0, c1, c2, c3, c4].drop 0).take (Try.prog.cellsOf 3)) = xs[0]? at t0
      rw [C3] at t0
      change DataW.trod enc Try.prog w base spare held n' 3 [c0] = xs[0]? at t0
      change DataW.trod enc Try.prog w base spare held n' 3 (([c0, c1, c2, c3, c4].drop 1).take (Try.prog.cellsOf 3)) = xs[1]? at t1
      rw [C3] at t1
      change DataW.trod enc Try.prog w base spare held n' 3 [c1] = xs[1]? at t1
      change DataW.trod enc Try.prog w base spare held n' 3 (([c0, c1, c2, c3, c4].drop 2).take (Try.prog.cellsOf 3)) = xs[2]? at t2
      rw [C3] at t2
      change DataW.trod enc Try.prog w base spare held n' 3 [c2] = xs[2]? at t2
      change DataW.trod enc Try.prog w base spare held n' 4 (([c0, c1, c2, c3, c4].drop 3).take (Try.prog.cellsOf 4)) = xs[3]? at t3
      rw [C4] at t3
      change DataW.trod enc Try.prog w base spare held n' 4 [c3] = xs[3]? at t3
      change DataW.trod enc Try.prog w base spare held n' 37 (([c0, c1, c2, c3, c4].drop 4).take (Try.prog.cellsOf 37)) = xs[4]? at t4
      rw [C37] at t4
      change DataW.trod enc Try.prog w base spare held n' 37 [c4] = xs[4]? at t4
      have g : ∀ {fu : Nat} {ty : TypeId} {k : IntKind} {c : Value} {y : Option (DataW H × List MemPlace)}, y.isSome → Try.prog.underlying ty = some (.int k) → DataW.trod enc Try.prog w base spare held fu ty [c] = y → ∃ n, c = .int k n := by
        intro fu ty k c y hy hu ht
        obtain ⟨y', hy'⟩ := Option.isSome_iff_exists.1 hy
        rw [hy'] at ht
        obtain ⟨n, e, _⟩ := DataW.trod_int hu ht
        injection e with e
        exact ⟨n, e⟩
      have hxl' : xs.length = 5 := hxl
      have sm : ∀ j, j < 5 → ∃ y, xs[j]? = some y := fun j hj => ⟨_, List.getElem?_eq_getElem (by omega)⟩
      obtain ⟨n0, rfl⟩ := g (by rw [List.getElem?_eq_getElem (by omega)]; rfl) Try.underlying3 t0
      obtain ⟨n1, rfl⟩ := g (by rw [List.getElem?_eq_getElem (by omega)]; rfl) Try.underlying3 t1
      obtain ⟨n2, rfl⟩ := g (by rw [List.getElem?_eq_getElem (by omega)]; rfl) Try.underlying3 t2
      obtain ⟨y3, hy3⟩ := sm 3 (by omega)
      obtain ⟨y4, hy4⟩ := sm 4 (by omega)
      rw [hy3] at t3
      rw [hy4] at t4
      obtain ⟨b3, e3, _⟩ := DataW.trod_bool Try.underlying4 t3
      have e3 : c3 = .bool b3 := by simpa using e3
      subst e3
      obtain ⟨l, hvs⟩ := open_vals (v := c4) (by simpa using t4)
      have e0 := hat 0 (by omega)
      have e1 := hat 1 (by omega)
      have e2 := hat 2 (by omega)
      have e3 := hat 3 (by omega)
      have e4 := hat 4 (by omega)
      rw [Go.Deep.add_add, hadd] at e0 e1 e2 e3 e4
      exact ⟨⟨n0, n1, n2, b3, l⟩, ⟨by simpa using e0, by simpa [Nat.add_assoc] using e1, by simpa [Nat.add_assoc] using e2, by simpa [Nat.add_assoc] using e3, c4, by simpa [Nat.add_assoc] using e4, hvs⟩, hadd⟩
  haveI : Inhabited Blk := ⟨⟨0, 0, 0, false, []⟩⟩
  obtain ⟨f, hf⟩ := choose_lt key
  refine ⟨(List.range len).map f, some a, cap, by simp, by simp; exact Nat.le_trans hl (by simpa [maxLen] using hm), fun k x hk => ?_⟩
  have hkl : k < len := by simpa using (List.getElem?_eq_some_iff.1 hk).1
  have ex : x = f k := by
    rw [List.getElem?_map, List.getElem?_range hkl] at hk
    simpa using hk.symm
  subst ex
  obtain ⟨h1, h2⟩ := hf k hkl
  refine ⟨a.block, a.off, ?_, h1⟩
  have := h2 0
  rw [show a.add 0 = a by simp [Addr.add]] at this
  exact congrArg some this
end

end Go.Proofs.Ytmelamlngjflkaa
