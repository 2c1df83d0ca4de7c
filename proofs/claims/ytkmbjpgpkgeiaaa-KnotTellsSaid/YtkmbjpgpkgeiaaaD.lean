/- The contract of knots. -/
import Derived.Test.YtkmbjpgpkgeiaaaRows
import Derived.WalkKit
import Derived.ProofKit
import Derived.OpenShut
import Derived.Below
import Derived.Outline
import Derived.LoopTactic
import Derived.Lib.Hide
import Derived.WalkSpells
import Derived.RegionTactic
import Derived.BigRegion
import Derived.Deep.QuietTactic
import Derived.BigQuiet
import Derived.Deep.RegionWith
import Derived.Carry
import Derived.Laws.EntriesVeiled
import Derived.Deep.RegionLaw
import Derived.Test.YtkmbjpgpkgeiaaaC2
namespace Go.Proofs.Ytkmbjpgpkgeiaaa
open Go.ChangeShapes Go.WideShapes Go.ChangeAt Go.RowKit
set_option linter.unusedVariables false

def toL (L : List (Nat × Nat)) (a : Nat) : List Nat := (L.filter (fun p => p.1 == a)).map (·.2)
theorem adj_to (L : List (Nat × Nat)) (a : Nat) : adjI L a = cI (toL L a) := by simp [adjI, toL, cI]
theorem to_lt {L : List (Nat × Nat)} {n : Nat} (h : ∀ p ∈ L, p.1 < n ∧ p.2 < n) (a b : Nat) (hb : b ∈ toL L a) : b < n := by
  simp only [toL, List.mem_map, List.mem_filter] at hb
  obtain ⟨p, ⟨hp, _⟩, rfl⟩ := hb
  exact (h p hp).2
theorem to_len (L : List (Nat × Nat)) (a : Nat) : (toL L a).length ≤ L.length := by simp [toL]; exact List.length_filter_le _ _
theorem inv_start (to : Nat → List Nat) (n : Nat) : Inv to n ⟨[], [], []⟩ [] where
  nod := List.nodup_nil
  lt := by simp
  sub := List.Sublist.refl _
  part := by simp
  alk := by simp
  uniq := by simp
  gst := by simp
  up := by simp
  down := by simp
  bw := by simp
  scc := by simp
  ord := by simp
theorem km_start {w : World} {b n : Nat} (h : w.heap[b]? = some (.map #[] 0)) : KM w b n [] [] :=
  ⟨.map [], ⟨#[], 0, h, ⟨by simp, MapKept.stamped_empty 0, by simp⟩, Nat.le_refl _, rfl⟩, ⟨rfl, fun x _ => by simp [Maps.has], by simp⟩⟩

theorem start_facts {w w1 : World} {n B0 gto : Nat} {xss : List (List Int)} (hB : w.heap.size = B0) (hr : RowsOwn ((((w.alloc (.cells #[.int .i64 n] 3)).alloc (.cells #[.slice none 0 0] 43)).alloc (.cells #[.slice none 0 0] 25)).heap.size + 1) gto w1 xss) (hg : (((w.alloc (.cells #[.int .i64 n] 3)).alloc (.cells #[.slice none 0 0] 43)).alloc (.cells #[.slice none 0 0] 25)).heap.size ≤ gto)
    (h1 : Below (((w.alloc (.cells #[.int .i64 n] 3)).alloc (.cells #[.slice none 0 0] 43)).alloc (.cells #[.slice none 0 0] 25)).heap.size (((w.alloc (.cells #[.int .i64 n] 3)).alloc (.cells #[.slice none 0 0] 43)).alloc (.cells #[.slice none 0 0] 25)) w1) :
    Row w1 B0 3 [.int .i64 n] ∧ Row w1 (B0 + 1) 43 [.slice none 0 0] ∧ Row w1 (B0 + 1 + 1) 25 [.slice none 0 0] ∧ gto = B0 + 1 + 1 + 1 ∧ RowsOwn (gto + 1) gto w1 xss ∧ B0 + 1 + 1 + 1 < w1.heap.size ∧ Below B0 w w1 := by
  subst hB
  have hs : (((w.alloc (.cells #[.int .i64 n] 3)).alloc (.cells #[.slice none 0 0] 43)).alloc (.cells #[.slice none 0 0] 25)).heap.size = w.heap.size + 1 + 1 + 1 := by simp
  have a1 : Row (w.alloc (.cells #[.int .i64 n] 3)) w.heap.size 3 [.int .i64 n] := Row.new _ _ _
  have a2 : Row ((w.alloc (.cells #[.int .i64 n] 3)).alloc (.cells #[.slice none 0 0] 43)) (w.heap.size + 1) 43 [.slice none 0 0] := by
    have := Row.new (w.alloc (.cells #[.int .i64 n] 3)) 43 [.slice none 0 0]
    simpa using this
  have a3 : Row (((w.alloc (.cells #[.int .i64 n] 3)).alloc (.cells #[.slice none 0 0] 43)).alloc (.cells #[.slice none 0 0] 25)) (w.heap.size + 1 + 1) 25 [.slice none 0 0] := by
    have := Row.new ((w.alloc (.cells #[.int .i64 n] 3)).alloc (.cells #[.slice none 0 0] 43)) 25 [.slice none 0 0]
    simpa using this
  rw [hs] at hr hg
  have hgt : gto = w.heap.size + 1 + 1 + 1 := by have := hr.1; omega
  subst hgt
  refine ⟨?_, ?_, a3.below h1 a3.lt, rfl, hr, ?_, ?_⟩
  · exact ((a1.below ((Below.refl _ _).alloc (Nat.le_refl _) _) a1.lt).below ((Below.refl _ _).alloc (Nat.le_refl _) _) (by simp; omega)).below h1 (by simp; omega)
  · exact (a2.below ((Below.refl _ _).alloc (Nat.le_refl _) _) a2.lt).below h1 (by simp)
  · obtain ⟨_, _, _, hro, _⟩ := hr
    exact hro.lt
  · exact ((((Below.refl _ _).alloc (Nat.le_refl _) _).alloc (by simp) _).alloc (by simp; omega) _).trans (h1.mono (by simp; omega))

theorem row_alloc {w : World} {g : Nat} {e : TypeId} {xs : List Value} (hr : Row w g e xs) (o : Obj) : Row (w.alloc o) g e xs := hr.below ((Below.refl _ _).alloc (Nat.le_refl _) _) hr.lt
theorem row_new {w : World} {g : Nat} (h : w.heap.size = g) (e : TypeId) (xs : List Value) : Row (w.alloc (.cells xs.toArray e)) g e xs := by
  subst h
  exact Row.new _ _ _
theorem size_alloc {w : World} {k : Nat} (h : w.heap.size = k) (o : Obj) : (w.alloc o).heap.size = k + 1 := by simp [h]
theorem start_rep {w1 : World} {B0 h n : Nat} {xss : List (List Int)} {clo : Value} (hh : w1.heap.size = h) (r0 : Row w1 B0 3 [.int .i64 n]) (r1 : Row w1 (B0 + 1) 43 [.slice none 0 0]) (r2 : Row w1 (B0 + 1 + 1) 25 [.slice none 0 0]) (ro : RowsOwn (B0 + 1 + 1 + 1 + 1) (B0 + 1 + 1 + 1) w1 xss) (xn : xss.length = n) :
    Rep (w1.setCell ⟨B0 + 1 + 1, 0, none⟩ (.slice (some ⟨h + 1, 0, none⟩) n n)) B0 h n (B0 + 1 + 1 + 1) xss clo (.slice none 0 0) (.slice none 0 0) [] (List.replicate n 0) [] [] [] []
      (((((((w1.setCell ⟨B0 + 1 + 1, 0, none⟩ (.slice (some ⟨h + 1, 0, none⟩) n n)).alloc (.cells #[.slice (some ⟨B0 + 1 + 1 + 1, 0, none⟩) n n] 43)).alloc (.cells (Array.replicate n (.int .i64 0)) 3)).alloc (.map #[] 0)).alloc (.cells #[.map (some (h + 1 + 1))] 55)).alloc (.cells #[.slice none 0 0] 25)).alloc (.cells #[clo] 56)) := by
  obtain ⟨w0, hw0⟩ : ∃ w0, w1.setCell ⟨B0 + 1 + 1, 0, none⟩ (.slice (some ⟨h + 1, 0, none⟩) n n) = w0 := ⟨_, rfl⟩
  have s0 : w0.heap.size = h := by rw [← hw0]; simpa [World.setCell] using hh
  have q0 : Row w0 B0 3 [.int .i64 n] := by rw [← hw0]; exact r0.far (by omega) _ _
  have q1 : Row w0 (B0 + 1) 43 [.slice none 0 0] := by rw [← hw0]; exact r1.far (by omega) _ _
  have q2 : Row w0 (B0 + 1 + 1) 25 [.slice (some ⟨h + 1, 0, none⟩) n n] := by rw [← hw0]; exact r2.set 0 _
  have q3 : RowsOwn (B0 + 1 + 1 + 1 + 1) (B0 + 1 + 1 + 1) w0 xss := by
    rw [← hw0]
    obtain ⟨h1, hs, h2, h3, h4⟩ := ro
    exact ⟨h1, hs, h2, h3.far (by omega) _ _, fun i hd xs a b => ⟨own_set (h4 i hd xs a b).1 (fun e => by have := own_base (h4 i hd xs a b).1 _ e; omega) _, (h4 i hd xs a b).2⟩⟩
  have hz : B0 + 1 + 1 + 1 < h := by
    obtain ⟨_, _, _, h3, _⟩ := ro
    rw [← hh]
    exact h3.lt
  rw [hw0]
  have s1 := size_alloc s0 (.cells #[.slice (some ⟨B0 + 1 + 1 + 1, 0, none⟩) n n] 43)
  have s2 := size_alloc s1 (.cells (Array.replicate n (.int .i64 0)) 3)
  have s3 := size_alloc s2 (.map #[] 0)
  have s4 := size_alloc s3 (.cells #[.map (some (h + 1 + 1))] 55)
  have s5 := size_alloc s4 (.cells #[.slice none 0 0] 25)
  have hrep : (Array.replicate n (Value.int .i64 0)) = ((List.replicate n (0 : Int)).map iv).toArray := by simp [iv]
  refine ⟨?_, s0, by omega, hz, q3, xn, q0, q2, row_alloc (row_alloc (row_alloc (row_alloc (row_alloc (row_alloc q1 _) _) _) _) _) _, row_alloc (row_alloc (row_alloc (row_alloc (row_alloc (row_new s0 _ _) _) _) _) _) _, ?_, by simp, km_start ?_, row_alloc (row_alloc (row_new s3 _ _) _) _, row_alloc (row_new s4 _ _) _, row_new s5 _ _, World.ownsRow_nil _ _ _ _, World.ownsRow_nil _ _ _ _, by simp [Value.ownBlock], rfl, by simp⟩
  · exact ((((((World.grownBy_alloc w0 _ _).trans (World.grownBy_alloc _ _ _)).trans (World.grownBy_alloc _ _ _)).trans (World.grownBy_alloc _ _ _)).trans (World.grownBy_alloc _ _ _)).trans (World.grownBy_alloc _ _ _))
  · rw [hrep]
    exact row_alloc (row_alloc (row_alloc (row_alloc (row_new s1 _ _) _) _) _) _
  · have hm := (MapKept.heap_alloc ((w0.alloc (.cells #[.slice (some ⟨B0 + 1 + 1 + 1, 0, none⟩) n n] 43)).alloc (.cells (Array.replicate n (.int .i64 0)) 3)) (.map #[] 0)).1
    rw [s2] at hm
    have st : ∀ (W : World) (o : Obj), W.heap[h + 1 + 1]? = some (.map #[] 0) → (W.alloc o).heap[h + 1 + 1]? = some (.map #[] 0) := fun W o e => (((Below.refl W.heap.size W).alloc (Nat.le_refl _) o).block _ (Array.getElem?_eq_some_iff.1 e).1).trans e
    exact st _ _ (st _ _ (st _ _ hm))
/-- The end: what the two results hold. -/
theorem Rep.ends {w0 : World} {B0 h n gto : Nat} {xss : List (List Int)} {clo vo va : Value} {hs : List Value} {pl : List Int} {ks op st : List Nat} {al : List (List Nat)} {w : World} (R : Rep w0 B0 h n gto xss clo vo va hs pl ks op st al w) (hn : n ≤ 1000) : IssAt w va (al.map cI) ∧ IsAt w (.slice (some ⟨h + 1, 0, none⟩) n n) pl := by
  refine ⟨?_, _, _, by rw [R.pn], by have := R.pn; omega, fun k x hk => ⟨h + 1, 0, rfl, ?_⟩⟩
  · rcases R.ao.2 with ⟨rfl, h0⟩ | ⟨g, cap, cur, rfl, _, _, h1, h2, _⟩
    · have : al = [] := List.eq_nil_of_length_eq_zero h0
      subst this
      exact ⟨none, 0, rfl, by simp, by simp⟩
    · refine ⟨_, cap, by rw [List.length_map], by rw [List.length_map]; exact Nat.le_trans h1 (by simpa [maxLen] using h2), fun k x hk => ?_⟩
      rw [List.getElem?_map, Option.map_eq_some_iff] at hk
      obtain ⟨c, hc, rfl⟩ := hk
      have hkl := (List.getElem?_eq_some_iff.1 hc).1
      obtain ⟨hd, hhd⟩ : ∃ hd, hs[k]? = some hd := ⟨_, List.getElem?_eq_getElem (by rw [R.hl]; exact hkl)⟩
      refine ⟨g, 0, hd, rfl, ?_, IsAt.own (by rw [cI_len]; exact (R.co k hd c hhd hc).1)⟩
      rw [Nat.zero_add, R.ao.cellAt k (by omega), hhd]
  · rw [Nat.zero_add]
    exact R.pa.get (by rw [List.getElem?_map, hk]; rfl)

/-- w' holds all that w holds. -/
def Eqc (w w' : World) : Prop := ∀ a v, w.cell? a = some v → w'.cell? a = some v
theorem Eqc.refl (w : World) : Eqc w w := fun _ _ h => h
theorem Eqc.set {w w' : World} (h : Eqc w w') {a : Addr} {v : Value} (hc : w.cell? a = some v) : Eqc w (w'.setCell a v) := fun b u hb => by
  by_cases e : a = b
  · subst e
    rw [hc] at hb
    injection hb with hb
    subst hb
    exact World.cell?_setCell_same _ _ _ (h _ _ hc)
  · rw [World.cell?_setCell_other _ _ _ _ e]
    exact h _ _ hb
theorem Eqc.drew {w w' : World} (h : Eqc w w') : Eqc w w'.drew := h
theorem IsAt.eqc {w w' : World} {v : Value} {l : List Int} (h : IsAt w v l) (e : Eqc w w') : IsAt w' v l := by
  obtain ⟨A, c, hv, hl, hx⟩ := h
  exact ⟨A, c, hv, hl, fun k x hk => let ⟨g, o, hA, h1⟩ := hx k x hk; ⟨g, o, hA, e _ _ h1⟩⟩
theorem IssAt.eqc {w w' : World} {v : Value} {l : List (List Int)} (h : IssAt w v l) (e : Eqc w w') : IssAt w' v l := by
  obtain ⟨A, c, hv, hl, hx⟩ := h
  exact ⟨A, c, hv, hl, fun k x hk => let ⟨g, o, h0, hA, h1, h2⟩ := hx k x hk; ⟨g, o, h0, hA, e _ _ h1, h2.eqc e⟩⟩
theorem below_rep {w w1 w2 : World} {B0 j : Nat} {u : Value} (h1 : Below B0 w w1) (h2 : (w1.setCell ⟨B0 + 1 + 1, j, none⟩ u).grownBy w2 (some (B0 + 1))) (hz : B0 ≤ w1.heap.size) : Below B0 w w2 := by
  have h3 : Below B0 w (w1.setCell ⟨B0 + 1 + 1, j, none⟩ u) := Below.setCell h1 (by simp; omega) _
  refine ⟨h2.os.trans h3.os, h2.tape.trans h3.tape, h2.output.trans h3.output, Nat.le_trans h3.size h2.size, fun k hk => (h2.block k (by simp [World.setCell]; omega) (fun e => by injection e with e; omega)).trans (h3.block k hk)⟩

def KnotsP (n : Nat) (L : List (Nat × Nat)) (w : World) (e : Ending) (w' : World) : Prop :=
  ∃ (s : St) (pl : List Int) (v1 v2 : Value), e = .returned (.tuple #[v1, v2]) ∧ Inv (toL L) n s [] ∧ (∀ x, x < n → x ∈ s.ks) ∧ Placed pl s.al ∧ pl.length = n ∧ IssAt w' v1 (s.al.map cI) ∧ IsAt w' v2 pl ∧ Below w.heap.size w w'

set_option maxHeartbeats 4000000 in
theorem knots_any {L : List (Nat × Nat)} {v : Value} (n : Nat) (w : World) (hl : EsAt w v (L.map castP)) (hn : n ≤ 1000) (hL : L.length ≤ 10000) (hv : ∀ p ∈ L, p.1 < n ∧ p.2 < n) : Calls Try.prog 20 #[.int .i64 n, v] w (KnotsP n L w) := by
  have HE := Lib.hid hl; clear hl
  have HV := Lib.hid hv; clear hv
  have hmf : ∀ (fn : Fn) (first cap : Array Value) (w : World), (Instr.makeFunc fn first cap).run Try.prog w = .ok (.func fn first cap) w := fun _ _ _ _ => rfl
  have hmk := fun (W : World) => run_mk (P := Try.prog) Try.underlying25 info3 rfl (by decide) n (by omega) W
  have hmm := @run_makeMap Try.prog
  obtain ⟨B0, hB0⟩ : ∃ B0, w.heap.size = B0 := ⟨_, rfl⟩
  go_enter Try.func20, Try.ntmps20
  go_wp2_with (go_at_call 22; refine (out_any n _ (HE.out.below (by repeat (first | exact Below.refl _ _ | (with_reducible refine Below.drew ?_) | refine Below.setCell ?_ (by simp) _ | refine Below.alloc ?_ (by first | omega | (simp; done) | (simp; omega)) _))) hn hL HV.out).mono ?_; rintro e w1 ⟨gto, rfl, hrow, hge, h1⟩; obtain ⟨R0, R1, R2, rfl, RO, ZB, BB⟩ := start_facts hB0 hrow hge h1; have c0 := R0.get (j := 0) rfl; have c1 := R1.get (j := 0) rfl; have c2 := R2.get (j := 0) rfl; have f1 := R1.frozen 0; have f2 := R2.frozen 0; have HR0 := Lib.hid R0; have HR1 := Lib.hid R1; have HR2 := Lib.hid R2; have HRO := Lib.hid RO; have HBB := Lib.hid BB; obtain ⟨h, hh⟩ : ∃ h, w1.heap.size = h := ⟨_, rfl⟩; rw [hh] at ZB; have z0 : B0 < h := (by omega); have z1 : B0 + 1 < h := (by omega); have z2 : B0 + 1 + 1 < h := (by omega); have y1 : B0 < h + 1 := (by omega); have y2 : B0 < h + 1 + 1 := (by omega); have y3 : B0 < h + 1 + 1 + 1 := (by omega); have y4 : B0 < h + 1 + 1 + 1 + 1 := (by omega); have y5 : B0 < h + 1 + 1 + 1 + 1 + 1 := (by omega); have y6 : B0 < h + 1 + 1 + 1 + 1 + 1 + 1 := (by omega);  clear hrow hge h1 R0 R1 R2 RO BB)
  have START := start_rep (clo := (.func (Fn.func 31) #[] #[.pointer (some ⟨h + 3, 0, none⟩), .pointer (some ⟨h + 4, 0, none⟩), .pointer (some ⟨h, 0, none⟩), .pointer (some ⟨h + 5, 0, none⟩), .pointer (some ⟨B0 + 1, 0, none⟩), .pointer (some ⟨B0 + 2, 0, none⟩), .pointer (some ⟨B0, 0, none⟩)])) hh HR0.out HR1.out HR2.out HRO.out (rowsI_len n L)
  have HST := Lib.hid START; clear START
  go_loopw [10, 11, 12, 21] (fun _ _ _ i wr => ∃ (k : Nat) (s : St), k ≤ n ∧ i = .int .i64 k ∧ Inv (toL L) n s [] ∧ (∀ x, x < k → x ∈ s.ks) ∧ Knows (w1.setCell ⟨B0 + 1 + 1, 0, none⟩ (.slice (some ⟨h + 1, 0, none⟩) n n)) B0 h n (B0 + 1 + 1 + 1) (rowsI n L) (.func (Fn.func 31) #[] #[.pointer (some ⟨h + 3, 0, none⟩), .pointer (some ⟨h + 4, 0, none⟩), .pointer (some ⟨h, 0, none⟩), .pointer (some ⟨h + 5, 0, none⟩), .pointer (some ⟨B0 + 1, 0, none⟩), .pointer (some ⟨B0 + 2, 0, none⟩), .pointer (some ⟨B0, 0, none⟩)]) s wr) (fun _ _ _ i _ => n - (intOf i).toNat)
  case atStart => exact ⟨0, ⟨[], [], []⟩, Nat.zero_le _, rfl, inv_start _ _, by simp, _, _, _, _, HST.out, by intro i c hi; simp at hi⟩
  case round =>
    clear c0 c1 c2 f1 f2 z0 z1 z2 y1 y2 y3 y4 y5 y6 HST hmk hmm hmf
    obtain ⟨k, s, hk, rfl, hI, hall, hK⟩ := hrel
    have HI := Lib.hid hI; clear hI
    have HALL := Lib.hid hall; clear hall
    have HK := Lib.hid hK; clear hK
    have hi_le := HI.out.ks_le
    obtain ⟨vo, va, hs, pl, R, hp⟩ := HK.out
    have HP := Lib.hid hp; clear hp
    have c3 : wr.cell? ⟨h + 1 + 1 + 1, 0, none⟩ = some (.map (some (h + 1 + 1))) := R.cells.2.1
    have c5 : wr.cell? ⟨h + 1 + 1 + 1 + 1 + 1, 0, none⟩ = some (.func (Fn.func 31) #[] #[.pointer (some ⟨h + 3, 0, none⟩), .pointer (some ⟨h + 4, 0, none⟩), .pointer (some ⟨h, 0, none⟩), .pointer (some ⟨h + 5, 0, none⟩), .pointer (some ⟨B0 + 1, 0, none⟩), .pointer (some ⟨B0 + 2, 0, none⟩), .pointer (some ⟨B0, 0, none⟩)]) := R.cells.2.2.2.1
    have hbig := R.big
    by_cases hlt : k < n
    · have HLT := Lib.hid hlt
      by_cases hin : k ∈ s.ks
      · have HIN := Lib.hid hin
        have hlk : (Instr.lookup 55 (.map (some (h + 1 + 1))) (.int .i64 (k : Int)) true).run Try.prog wr = .ok (.tuple #[.agg #[.int .i64 (numI s.ks k), .int .i64 (opI s.ks s.st k)], .bool true]) wr := R.km.look_in hn hlt hin
        obtain ⟨m1, h1⟩ : ∃ m, numI s.ks k = m := ⟨_, rfl⟩
        obtain ⟨m2, h2⟩ : ∃ m, opI s.ks s.st k = m := ⟨_, rfl⟩
        rw [h1, h2] at hlk
        clear h1 h2 R hin
        go_wp2
        go_roundw
        case rel => exact ⟨k + 1, s, HLT.out, by go_num, HI.out, fun x hx => by (rcases Nat.lt_or_ge x k with h1 | h1; exact HALL.out x h1; (obtain rfl : x = k := by omega); exact HIN.out), HK.out.below (by repeat (first | exact Below.refl _ _ | (with_reducible refine Below.drew ?_) | refine Below.setCell ?_ (by simp) _ | refine Below.alloc ?_ (by first | omega | (simp; done) | (simp; omega)) _))⟩
        case measure => have := HLT.out; simp [intOf]; omega
      · have HIN := Lib.hid hin
        have hlk : (Instr.lookup 55 (.map (some (h + 1 + 1))) (.int .i64 (k : Int)) true).run Try.prog wr = .ok (.tuple #[.agg #[.int .i64 0, .int .i64 0], .bool false]) wr := R.km.look_out hn hlt hin
        clear R hin
        have HTO : Hid (∀ a, a < n → (rowsI n L)[a]? = some (cI (toL L a))) := fun a ha => by rw [rowsI_get ha, adj_to]
        have HLE : Hid (∀ a, a < n → (toL L a).length ≤ 10000) := fun a _ => Nat.le_trans (to_len L a) hL
        have HLT2 : Hid (∀ a, a < n → ∀ b ∈ toL L a, b < n) := fun a _ b hb => to_lt HV.out a b hb
        have HND : Hid (n - s.ks.length ≤ n) := by unfold Hid; omega
        go_wp2_with (go_at_call 31; refine (visit_any hn HTO.out HLT2.out HLE.out rfl n s [] k _ HND.out HI.out HIN.out hlt (by simp) (HK.out.below (by repeat (first | exact Below.refl _ _ | (with_reducible refine Below.drew ?_) | refine Below.setCell ?_ (by simp) _ | refine Below.alloc ?_ (by first | omega | (simp; done) | (simp; omega)) _)))).mono ?_; rintro e w' ⟨t2, lo, kn, new, an, rfl, hpost, hk2⟩; have HPO := Lib.hid hpost; have HK2 := Lib.hid hk2; clear hpost hk2)
        go_wp2
        go_roundw
        case rel => exact ⟨k + 1, t2, HLT.out, by go_num, HPO.out.inv, fun x hx => by (rcases Nat.lt_or_ge x k with h1 | h1; (rw [HPO.out.ks]; exact List.mem_append_left _ (HALL.out x h1)); (obtain rfl : x = k := by omega); exact HPO.out.mem), HK2.out⟩
        case measure => have := HLT.out; simp [intOf]; omega
    · obtain rfl : k = n := by omega
      have ENDS := Lib.hid (R.ends hn)
      have cA := R.cells.2.2.2.2.1
      have cP : wr.cell? ⟨B0 + 1 + 1, 0, none⟩ = some (.slice (some ⟨h + 1, 0, none⟩) k k) := R.cells.2.2.2.2.2.1
      have fA := R.cells.2.2.2.2.2.2.2.2.1
      have fP : wr.frozen? ⟨B0 + 1 + 1, 0, none⟩ = false := (R.pv.grown R.fr (fun e => by injection e with e; omega)).frozen 0
      have HPN := Lib.hid R.pn
      have HBW : Hid (Below w.heap.size w wr) := Lib.hid (by rw [hB0]; exact below_rep HBB.out R.fr (by omega))
      have CA := Lib.hid cA
      have CP := Lib.hid cP
      obtain ⟨Aa, ca, rfl⟩ := own_slice R.ao
      clear R
      go_wp2_with fail
      go_region
      all_goals
        go_wp2
        refine bodyPost_ret (v := .tuple #[.slice Aa s.al.length ca, .slice (some ⟨h + 1, 0, none⟩) k k]) (by simp [results, Try.results20, go_sem, *]) rfl ?_
        refine ⟨s, pl, _, _, rfl, HI.out, HALL.out, HP.out, HPN.out, ENDS.out.1.eqc ?_, ENDS.out.2.eqc ?_, ?_⟩
        · repeat (first | exact Eqc.refl _ | (with_reducible refine Eqc.drew ?_) | refine Eqc.set ?_ CA.out | refine Eqc.set ?_ CP.out)
        · repeat (first | exact Eqc.refl _ | (with_reducible refine Eqc.drew ?_) | refine Eqc.set ?_ CA.out | refine Eqc.set ?_ CP.out)
        · repeat (first | exact HBW.out | (with_reducible refine Below.drew ?_) | refine Below.setCell ?_ (by simp; omega) _)

end Go.Proofs.Ytkmbjpgpkgeiaaa
