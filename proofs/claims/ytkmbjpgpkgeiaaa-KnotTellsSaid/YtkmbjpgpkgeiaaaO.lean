/- The arguments opened: a list of arrows as it lies when the law is called; and the row's last step: a law that answers true, and turns nothing that was there, meets its row. -/
import Derived.WalkKit
import Derived.ProofKit
import Derived.OpenShut
import Derived.Below
import Derived.Carry
import Derived.Deep.Slices
import Derived.Deep.Fields
import Derived.ChangeSame
import Derived.Lib.SmallJoins
import Derived.Test.YtkmbjpgpkgeiaaaRows
import Derived.Test.YtkmbjpgpkgeiaaaA
namespace Go.Proofs.Ytkmbjpgpkgeiaaa
open Go.Joins Go.ChangeShapes Go.WideShapes Go.ChangeAt Go.RowKit Go.Deep

section
variable {H : Type} {enc : TypeId × Value → H} {P : Program}

theorem stays {W W' : World} (hl : laidOutB P = true) (hb : Below W.heap.size W W') : ∀ {ts : List TypeId} {vs : List Value} {ds : List (DataW H)} {p : List MemPlace},
    (∀ t ∈ ts, P.readableRec t = true ∧ t < P.types.size) → (∀ x ∈ p, x.block < W.heap.size) → DataW.TrodAll enc P W 0 (fun _ => true) true ts vs ds p →
    DataW.TrodAll enc P W' 0 (fun b => decide (b < W.heap.size)) true ts vs ds p
  | [], _, _, _, _, _, h => by
    obtain ⟨rfl, rfl, rfl⟩ := trodAll_nil h
    exact trodAll_mk0
  | t :: ts, _, _, _, ht, hp, h => by
    obtain ⟨v, vs1, d, ds1, a, b, rfl, rfl, rfl, h1, h2⟩ := trodAll_cons h
    obtain ⟨hr, hs⟩ := ht t (by simp)
    exact trodAll_cons_mk (Below.trod hl hr hs h1 hb fun x hx => hp x (by simp [hx])) (stays hl hb (fun u hu => ht u (by simp [hu])) (fun x hx => hp x (by simp [hx])) h2)

theorem law_post {f : Func} {s : ChangeSpec} {W W' : World} {args : Array Value} {ds gs : List (DataW H)} {before : List MemPlace} {tb : TypeId}
    (hl : laidOutB P = true) (hts : ∀ t ∈ f.params.toList, P.readableRec t = true ∧ t < P.types.size) (hvars : s.vars = []) (hr : f.resultTypes = #[tb]) (htb : P.underlying tb = some .bool)
    (hfn : s.fn H ds = { results := [.lit (.bool true)], args := ds })
    (hW : DataW.Whole enc P f.params.toList s.vars false W args.toList ds gs before) (hb : Below W.heap.size W W') :
    s.post enc P f false true false false W args (.bool true) W' := by
  have hW' := hW
  obtain ⟨p, q, hA, hV, rfl, hfz, hnd⟩ := hW
  have hlt : ∀ x ∈ p, x.block < W.heap.size := fun x hx => hW'.lt x (by simp [hx])
  obtain ⟨rfl, rfl⟩ : gs = [] ∧ q = [] := by rw [hvars] at hV; exact trodVars_none hV
  refine ⟨ds, [], _, [], p, [], hW', ?_, ?_, ?_, hb.frame _, fun h => by cases h⟩
  · rw [List.append_nil, hfn, hr]
    exact trodAll_cons_mk (shut_bool htb true) trodAll_mk0
  · rw [List.append_nil, hfn]
    exact stays hl hb hts hlt hA
  · rw [hvars, List.append_nil, hfn]
    rfl
end


section
variable {H : Type} {enc : TypeId × Value → H} {w : World} {spare : Nat → Bool} {held : Bool}
theorem at_none {w : World} {a : Addr} {v : Value} (h : w.cell? a = some v) : a = ⟨a.block, a.off, none⟩ := by
  obtain ⟨b, o, s⟩ := a
  cases s with
  | none => rfl
  | some s =>
    unfold World.cell? at h
    split at h <;> simp_all
theorem add_none {a : Addr} {w : World} {v : Value} (h : w.cell? (a.add 0) = some v) : ∀ k, a.add k = ⟨a.block, a.off + k, none⟩ := by
  have e : a.add 0 = a := by simp [Addr.add]
  rw [e] at h
  have := at_none h
  intro k
  unfold Addr.add
  split
  · rename_i h0
    subst h0
    rw [this]
    simp
  · rfl
theorem cells_at {base : Nat} {a : Addr} {n : Nat} {cs : List Value} (h : w.cells? base a n = some cs) : cs.length = n ∧ ∀ j, j < n → w.cell? (a.add j) = cs[j]? := by
  obtain ⟨_, h1, h2⟩ := World.cells?_some h
  exact ⟨h1, h2⟩

theorem u32 : Try.prog.underlying 32 = some (.array 2 3) := by kernel_rfl
/-- A list of arrows that is read. -/
theorem open_edges {b0 base : Nat} {v : Value} {d : DataW H} {p : List MemPlace} (hv : Value.okWide Try.prog w .any b0 22 v) (h : DataW.Trod enc Try.prog w base spare held 22 v d p) : ∃ l, EsAt w v l := by
  obtain ⟨a0, len0, cap0, rfl⟩ := okWide_slice Try.underlying22 hv
  obtain ⟨fuel, h⟩ := h
  have h : DataW.trod enc Try.prog w base spare held fuel 22 [.slice a0 len0 cap0] = some (d, p) := by simpa [Value.cells] using h
  rcases open_slice Try.underlying22 h with ⟨hc, _⟩ | ⟨a, len, cap, m, n, D, Pl, hcs, hb, hl, hm, hmm, hx, hi⟩
  · injection hc with hc
    rw [hc]
    exact ⟨[], es_nil w⟩
  injection hcs with hcs
  rw [hcs]
  have hlm : len ≤ m := by rw [hmm]; split <;> omega
  have hC : Try.prog.cellsOf 32 = 2 := by kernel_rfl
  have key : ∀ i, i < len → ∃ x : Int × Int, (w.cell? ⟨a.block, a.off + i * 2, none⟩ = some (.int .i64 x.1) ∧ w.cell? ⟨a.block, a.off + i * 2 + 1, none⟩ = some (.int .i64 x.2)) ∧ (∀ k, a.add k = ⟨a.block, a.off + k, none⟩) := by
    intro i hil
    have hadd : ∀ k, a.add k = ⟨a.block, a.off + k, none⟩ := by
      obtain ⟨cs0, hc0, _⟩ := hi 0 (by omega)
      rw [hC, Nat.zero_mul] at hc0
      obtain ⟨hlen0, hat0⟩ := cells_at hc0
      have h00 := hat0 0 (by omega)
      rw [Go.Deep.add_add, List.getElem?_eq_getElem (by omega)] at h00
      exact add_none h00
    obtain ⟨cs', hc, ht⟩ := hi i (by omega)
    rw [hC] at hc
    obtain ⟨hlen, hat⟩ := cells_at hc
    obtain ⟨xs, n', _, _, _, hxl, hf⟩ := DataW.trod_array u32 ht
    match cs', hlen with
    | [c0, c1], _ =>
      have C3 : Try.prog.cellsOf 3 = 1 := by kernel_rfl
      have t0 := hf 0 (by omega)
      have t1 := hf 1 (by omega)
      rw [C3] at t0 t1
      change DataW.trod enc Try.prog w base spare held n' 3 [c0] = xs[0]? at t0
      change DataW.trod enc Try.prog w base spare held n' 3 [c1] = xs[1]? at t1
      have g : ∀ {fu : Nat} {ty : TypeId} {k : IntKind} {c : Value} {y : Option (DataW H × List MemPlace)}, y.isSome → Try.prog.underlying ty = some (.int k) → DataW.trod enc Try.prog w base spare held fu ty [c] = y → ∃ n, c = .int k n := by
        intro fu ty k c y hy hu ht
        obtain ⟨y', hy'⟩ := Option.isSome_iff_exists.1 hy
        rw [hy'] at ht
        obtain ⟨n, e, _⟩ := DataW.trod_int hu ht
        injection e with e
        exact ⟨n, e⟩
      obtain ⟨n0, rfl⟩ := g (by rw [List.getElem?_eq_getElem (by omega)]; rfl) Try.underlying3 t0
      obtain ⟨n1, rfl⟩ := g (by rw [List.getElem?_eq_getElem (by omega)]; rfl) Try.underlying3 t1
      have e0 := hat 0 (by omega)
      have e1 := hat 1 (by omega)
      rw [Go.Deep.add_add, hadd] at e0 e1
      exact ⟨⟨n0, n1⟩, ⟨by simpa using e0, by simpa [Nat.add_assoc] using e1⟩, hadd⟩
  haveI : Inhabited (Int × Int) := ⟨⟨0, 0⟩⟩
  obtain ⟨f, hf⟩ := choose_lt key
  refine ⟨(List.range len).map f, some a, cap, by simp, by simp; exact Nat.le_trans hl (by simpa [maxLen] using hm), fun k x hk => ?_⟩
  have hkl : k < len := by simpa using (List.getElem?_eq_some_iff.1 hk).1
  have ex : x = f k := by
    rw [List.getElem?_map, List.getElem?_range hkl] at hk
    simpa using hk.symm
  subst ex
  obtain ⟨h1, h2⟩ := hf k hkl
  refine ⟨a.block, a.off, ?_, h1.1, h1.2⟩
  have := h2 0
  rw [show a.add 0 = a by simp [Addr.add]] at this
  exact congrArg some this
end

end Go.Proofs.Ytkmbjpgpkgeiaaa
