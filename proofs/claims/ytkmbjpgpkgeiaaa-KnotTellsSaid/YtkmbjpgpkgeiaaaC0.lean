/- The memory of the visits of knots' points, and what each of its writes leaves. -/
import Derived.Test.YtkmbjpgpkgeiaaaRows
import Derived.WalkKit
import Derived.ProofKit
import Derived.OpenShut
import Derived.Below
import Derived.Outline
import Derived.LoopTactic
import Derived.Lib.Hide
import Derived.WalkSpells
import Derived.RegionTactic
import Derived.BigRegion
import Derived.Deep.QuietTactic
import Derived.BigQuiet
import Derived.Deep.RegionWith
import Derived.Deep.RegionLaw
import Derived.Deep.AppendLies
import Derived.Maps.OwnSet
import Derived.WalkSmall
import Derived.Test.YtkmbjpgpkgeiaaaB
import Derived.Test.YtkmbjpgpkgeiaaaTj
namespace Go.Proofs.Ytkmbjpgpkgeiaaa
open Go.ChangeShapes Go.WideShapes Go.ChangeAt Go.RowKit
set_option linter.unusedVariables false

open Go.Maps (Keyed IsMap Tidy)
/-! ### The map of what is known -/
def pairD (a b : Int) : DataW Unit := .agg [.lit (.int .i64 a), .lit (.int .i64 b)]
def RR : Value → Option (DataW Unit × List MemPlace)
  | .agg cs => match cs.toList with
    | [.int .i64 a, .int .i64 b] => some (pairD a b, [])
    | _ => none
  | _ => none
theorem RR_mk (a b : Int) : RR (.agg #[.int .i64 a, .int .i64 b]) = some (pairD a b, []) := rfl
theorem RR_inv {v : Value} {a b : Int} {ps : List MemPlace} (h : RR v = some (pairD a b, ps)) : v = .agg #[.int .i64 a, .int .i64 b] := by
  unfold RR at h
  split at h
  · rename_i cs
    split at h
    · rename_i x y e
      simp only [Option.some.injEq, Prod.mk.injEq, pairD, DataW.agg.injEq, List.cons.injEq, DataW.lit.injEq, Lit.int.injEq, true_and, and_true] at h
      obtain ⟨⟨rfl, rfl⟩, _⟩ := h
      have : cs = cs.toList.toArray := by simp
      rw [this, e]
    · cases h
  · cases h
def kl (x : Nat) : Lit := .int .i64 (x : Int)
theorem kl_inj {x y : Nat} (h : x ≠ y) : kl x ≠ kl y := fun e => by
  simp only [kl, Lit.int.injEq, true_and] at e
  omega
theorem kl_key (x : Nat) : WideAt.IsKeyLit (kl x) := by unfold kl WideAt.IsKeyLit; trivial
def numI (ks : List Nat) (x : Nat) : Int := (ks.idxOf x : Nat)
def opI (ks op : List Nat) (x : Nat) : Int := if x ∈ op then numI ks x else -1

structure KD (n : Nat) (ks op : List Nat) (Dm : DataW Unit) : Prop where
  siz : Maps.size Dm = ks.length
  has : ∀ x, x < n → Maps.has Dm (kl x) = decide (x ∈ ks)
  val : ∀ x ∈ ks, Dm.atKey (kl x) (pairD 0 0) = pairD (numI ks x) (opI ks op x)

theorem KD.new {n : Nat} {ks op : List Nat} {Dm : DataW Unit} (h : KD n ks op Dm) (ht : Tidy Dm) {a : Nat} (ha : a < n) (hk : a ∉ ks) : KD n (ks ++ [a]) (op ++ [a]) (Dm.put (kl a) (pairD (ks.length : Nat) (ks.length : Nat))) := by
  have hh : Maps.has Dm (kl a) = false := by rw [h.has a ha]; simpa using hk
  have hna : numI (ks ++ [a]) a = (ks.length : Nat) := by
    unfold numI
    rw [num_new hk]
    simp
  refine ⟨?_, fun x hx => ?_, fun x hx => ?_⟩
  · rw [Maps.size_put ht, hh, h.siz]
    simp
  · by_cases e : x = a
    · subst e
      rw [Maps.has_put_same ht.isMap (kl_key _)]
      simp
    · rw [Maps.has_put_other (kl_inj e), h.has x hx]
      simp [e]
  · by_cases e : x = a
    · subst e
      rw [Maps.atKey_put_same ht.isMap (kl_key _), hna]
      simp [opI, hna]
    · have hx' : x ∈ ks := by simpa [e] using hx
      rw [Maps.atKey_put_other (kl_inj e), h.val x hx']
      have h1 : numI (ks ++ [a]) x = numI ks x := by unfold numI; rw [num_app hx']
      simp [opI, h1, e]
theorem KD.shut {n : Nat} {ks op op' : List Nat} {Dm : DataW Unit} (h : KD n ks op Dm) (ht : Tidy Dm) {a : Nat} (ha : a < n) (hk : a ∈ ks) (ho : ∀ y, y ∈ op' ↔ y ∈ op ∧ y ≠ a) : KD n ks op' (Dm.put (kl a) (pairD (numI ks a) (-1))) := by
  have hh : Maps.has Dm (kl a) = true := by rw [h.has a ha]; simpa using hk
  refine ⟨?_, fun x hx => ?_, fun x hx => ?_⟩
  · rw [Maps.size_put ht, hh, h.siz]
    simp
  · by_cases e : x = a
    · subst e
      rw [Maps.has_put_same ht.isMap (kl_key _)]
      simpa using hk
    · rw [Maps.has_put_other (kl_inj e), h.has x hx]
  · by_cases e : x = a
    · subst e
      rw [Maps.atKey_put_same ht.isMap (kl_key _)]
      simp [opI, ho]
    · rw [Maps.atKey_put_other (kl_inj e), h.val x hx]
      simp [opI, ho, e]
theorem KD.congr {n : Nat} {ks op op' : List Nat} {Dm : DataW Unit} (h : KD n ks op Dm) (ho : ∀ y, y ∈ op ↔ y ∈ op') : KD n ks op' Dm :=
  ⟨h.siz, h.has, fun x hx => by rw [h.val x hx]; simp only [opI, ho]⟩

theorem law3 : Keyed Try.prog 3 := Maps.int_keyed Try.underlying3
theorem u55 : Try.prog.underlying 55 = some (.map 3 32) := by kernel_rfl
theorem zero32 (w : World) : (zeroValue 32).run Try.prog w = .ok (.agg #[.int .i64 0, .int .i64 0]) w := by kernel_rfl
theorem key_nat {n x : Nat} (hn : n ≤ 1000) (hx : x < n) : keyOf Try.prog 3 (.int .i64 (x : Int)) = some (kl x) :=
  Maps.keyOf_int_mk Try.underlying3 (by
    simp only [Lit.wf, Bool.and_eq_true, decide_eq_true_eq]
    have h1 : IntKind.min .i64 = -9223372036854775808 := by decide
    have h2 : IntKind.max .i64 = 9223372036854775807 := by decide
    rw [h1, h2]
    omega)
theorem own_tight {w : World} {b m : Nat} {Dm : DataW Unit} (h : w.ownsMap Try.prog 3 RR b m Dm) : w.ownsMap Try.prog 3 RR b (Maps.size Dm) Dm := by
  obtain ⟨es, clock, hb, F, hs, rfl⟩ := h
  exact ⟨es, clock, hb, F, by simp [Maps.size, length_sorted], rfl⟩

def KM (w : World) (b n : Nat) (ks op : List Nat) : Prop := ∃ Dm : DataW Unit, w.ownsMap Try.prog 3 RR b ks.length Dm ∧ KD n ks op Dm
section
variable {w w' : World} {b n x : Nat} {ks op op' : List Nat}
theorem KM.look_in (h : KM w b n ks op) (hn : n ≤ 1000) (hx : x < n) (hk : x ∈ ks) : (Instr.lookup 55 (.map (some b)) (.int .i64 (x : Int)) true).run Try.prog w = .ok (.tuple #[.agg #[.int .i64 (numI ks x), .int .i64 (opI ks op x)], .bool true]) w := by
  obtain ⟨Dm, ho, hd⟩ := h
  obtain ⟨v, ps, hrun, hv⟩ := ho.look_ok law3 u55 (zero32 w) (RR_mk 0 0) (key_nat hn hx)
  rw [hd.val x hk] at hv
  rw [hrun, RR_inv hv, hd.has x hx, decide_eq_true hk]
theorem KM.look_out (h : KM w b n ks op) (hn : n ≤ 1000) (hx : x < n) (hk : x ∉ ks) : (Instr.lookup 55 (.map (some b)) (.int .i64 (x : Int)) true).run Try.prog w = .ok (.tuple #[.agg #[.int .i64 0, .int .i64 0], .bool false]) w := by
  obtain ⟨Dm, ho, hd⟩ := h
  obtain ⟨v, ps, hrun, hv⟩ := ho.look_ok law3 u55 (zero32 w) (RR_mk 0 0) (key_nat hn hx)
  have hh : Maps.has Dm (kl x) = false := by rw [hd.has x hx]; simpa using hk
  rw [Maps.atKey_of_not_has hh] at hv
  rw [hrun, RR_inv hv, hh]
theorem KM.look1 (h : KM w b n ks op) (hn : n ≤ 1000) (hx : x < n) (hk : x ∈ ks) : (Instr.lookup 55 (.map (some b)) (.int .i64 (x : Int)) false).run Try.prog w = .ok (.agg #[.int .i64 (numI ks x), .int .i64 (opI ks op x)]) w := by
  obtain ⟨Dm, ho, hd⟩ := h
  obtain ⟨v, ps, hrun, hv⟩ := ho.lookup law3 u55 (zero32 w) (RR_mk 0 0) (key_nat hn hx)
  rw [hd.val x hk] at hv
  rw [hrun, RR_inv hv]
theorem KM.len (h : KM w b n ks op) (ty : TypeId) : (Builtin.len_ #[55] ty #[.map (some b)]).run Try.prog w = .ok (.int .i64 (ks.length : Nat)) w := by
  obtain ⟨Dm, ho, hd⟩ := h
  rw [ho.len u55 ty, hd.siz]
theorem KM.of_block (h : KM w b n ks op) (hb : w'.heap[b]? = w.heap[b]?) : KM w' b n ks op := by
  obtain ⟨Dm, ⟨es, clock, h1, r⟩, hd⟩ := h
  exact ⟨Dm, ⟨es, clock, hb.trans h1, r⟩, hd⟩
theorem KM.lt (h : KM w b n ks op) : b < w.heap.size := by
  obtain ⟨Dm, ho, _⟩ := h
  exact ho.lt
theorem KM.new (h : KM w b n ks op) (hn : n ≤ 1000) (hks : ks.length ≤ 1000) (hx : x < n) (hk : x ∉ ks) : ∃ w', (Instr.mapUpdate 55 (.map (some b)) (.int .i64 (x : Int)) (.agg #[.int .i64 (ks.length : Nat), .int .i64 (ks.length : Nat)])).run Try.prog w = .ok () w' ∧ KM w' b n (ks ++ [x]) (op ++ [x]) ∧ w.grownBy w' (some b) := by
  obtain ⟨Dm, ho, hd⟩ := h
  obtain ⟨w', hr, ho', hg⟩ := ho.update law3 u55 (by unfold maxLen; omega) (key_nat hn hx) (RR_mk (ks.length : Nat) (ks.length : Nat))
  have hd' := hd.new (ho.tidy law3) hx hk
  exact ⟨w', hr, ⟨_, by have := own_tight ho'; rw [hd'.siz] at this; exact this, hd'⟩, hg⟩
theorem KM.shut (h : KM w b n ks op) (hn : n ≤ 1000) (hks : ks.length ≤ 1000) (hx : x < n) (hk : x ∈ ks) (hop : ∀ y, y ∈ op' ↔ y ∈ op ∧ y ≠ x) : ∃ w', (Instr.mapUpdate 55 (.map (some b)) (.int .i64 (x : Int)) (.agg #[.int .i64 (numI ks x), .int .i64 (-1)])).run Try.prog w = .ok () w' ∧ KM w' b n ks op' ∧ w.grownBy w' (some b) := by
  obtain ⟨Dm, ho, hd⟩ := h
  obtain ⟨w', hr, ho', hg⟩ := ho.update law3 u55 (by unfold maxLen; omega) (key_nat hn hx) (RR_mk (numI ks x) (-1))
  have hd' := hd.shut (ho.tidy law3) hx hk hop
  exact ⟨w', hr, ⟨_, by have := own_tight ho'; rw [hd'.siz] at this; exact this, hd'⟩, hg⟩
theorem KM.congr (h : KM w b n ks op) (ho : ∀ y, y ∈ op ↔ y ∈ op') : KM w b n ks op' := by
  obtain ⟨Dm, h1, hd⟩ := h
  exact ⟨Dm, h1, hd.congr ho⟩
end

/-! ### What has turned -/
/-- w' is w but for the blocks of which P speaks, and for new ones. -/
structure Chg (P : Nat → Prop) (w w' : World) : Prop where
  os : w'.os = w.os
  tape : w'.tape = w.tape
  output : w'.output = w.output
  size : w.heap.size ≤ w'.heap.size
  block : ∀ k, k < w.heap.size → ¬ P k → w'.heap[k]? = w.heap[k]?
section
variable {P : Nat → Prop} {w w' w'' : World}
theorem Chg.trans (h : Chg P w w') (k : Chg P w' w'') : Chg P w w'' :=
  ⟨k.os.trans h.os, k.tape.trans h.tape, k.output.trans h.output, Nat.le_trans h.size k.size, fun i hi hp => (k.block i (Nat.lt_of_lt_of_le hi h.size) hp).trans (h.block i hi hp)⟩
theorem Chg.below (h : Below w.heap.size w w') : Chg P w w' := ⟨h.os, h.tape, h.output, h.size, fun i hi _ => h.block i hi⟩
theorem Chg.grown {row : Option Nat} (h : w.grownBy w' row) (hp : ∀ q, row = some q → P q) : Chg P w w' := ⟨h.os, h.tape, h.output, h.size, fun i hi hn => h.block i hi (fun e => hn (hp i e.symm))⟩
theorem Chg.setCell (w : World) {b j : Nat} {u : Value} (hp : P b) : Chg P w (w.setCell ⟨b, j, none⟩ u) := ⟨rfl, rfl, rfl, by simp [World.setCell], fun i _ hn => Below.heap_setCell _ _ _ _ (fun e => hn (by rw [e]; exact hp))⟩
theorem Chg.row {g : Nat} {e : TypeId} {xs : List Value} (h : Chg P w w') (hr : Row w g e xs) (hg : ¬ P g) : Row w' g e xs := (h.block g hr.lt hg).trans hr
theorem own_block {base : Nat} {e : TypeId} {size n : Nat} {v : Value} {xs : List Value} (h : w.ownsRow base e size v n xs) (hk : ∀ q, v.ownBlock = some q → w'.heap[q]? = w.heap[q]?) : w'.ownsRow base e size v n xs := by
  obtain ⟨h1, h2⟩ := h
  refine ⟨h1, ?_⟩
  rcases h2 with h2 | ⟨g, cap, cur, hv, hg, hh, r⟩
  · exact .inl h2
  · exact .inr ⟨g, cap, cur, hv, hg, (hk g (by rw [hv]; rfl)).trans hh, r⟩
theorem Chg.own {base : Nat} {e : TypeId} {size n : Nat} {v : Value} {xs : List Value} (h : Chg P w w') (ho : w.ownsRow base e size v n xs) (hg : ∀ q, v.ownBlock = some q → ¬ P q) : w'.ownsRow base e size v n xs :=
  own_block ho (fun q hq => h.block q (ho.lt q hq).2 (hg q hq))
theorem Chg.km {b n : Nat} {ks op : List Nat} (h : Chg P w w') (hk : KM w b n ks op) (hg : ¬ P b) : KM w' b n ks op := hk.of_block (h.block b hk.lt hg)
end
theorem own_take {w : World} {base : Nat} {e : TypeId} {A : Option Addr} {m c k : Nat} {xs : List Value} (h : w.ownsRow base e 1 (.slice A m c) m xs) (hk : k ≤ m) : w.ownsRow base e 1 (.slice A k c) k (xs.take k) := by
  obtain ⟨h1, h2⟩ := h
  rcases h2 with ⟨hv, hm⟩ | ⟨g, cap, cur, hv, hg, hh, hn, hc, hs, ht⟩
  · injection hv with e1 _ e3
    obtain rfl : k = 0 := by omega
    exact ⟨by simp, .inl ⟨by rw [e1, e3], rfl⟩⟩
  · injection hv with e1 _ e3
    subst e1 e3
    refine ⟨by simp [h1, hk], .inr ⟨g, c, cur, rfl, hg, hh, by omega, hc, hs, ?_⟩⟩
    rw [← ht, List.take_take]
    simp [hk]
theorem own_drop {w : World} {base m c k : Nat} {A : Option Addr} {l : List Int} (h : w.ownsRow base 3 1 (.slice A m c) m (l.map iv)) (hk : k < m) : ∃ g, A = some ⟨g, 0, none⟩ ∧ m ≤ c ∧ c ≤ 9223372036854775807 ∧ IsAt w (.slice (some ⟨g, k, none⟩) (m - k) (c - k)) (l.drop k) := by
  have hl : l.length = m := by have := h.1; simpa using this
  rcases h.2 with ⟨hv, hm⟩ | ⟨g, cap, cur, hv, hg, hh, hn, hc, hs, ht⟩
  · omega
  · injection hv with e1 _ e3
    subst e1 e3
    have hc' : c ≤ 9223372036854775807 := by simpa [maxLen] using hc
    refine ⟨g, rfl, hn, hc', ⟨_, _, by rw [List.length_drop, hl], by simp; omega, fun j x hx => ⟨g, k, rfl, ?_⟩⟩⟩
    rw [List.getElem?_drop] at hx
    have hj := (List.getElem?_eq_some_iff.1 hx).1
    rw [h.cellAt (k + j) (by omega), List.getElem?_map, hx]
    rfl

/-! ### The memory of the visits -/
def cI (l : List Nat) : List Int := l.map (fun x : Nat => (x : Int))
theorem cI_len (l : List Nat) : (cI l).length = l.length := by simp [cI]
structure Rep (w0 : World) (B0 h n gto : Nat) (xss : List (List Int)) (clo vo va : Value) (hs : List Value) (pl : List Int) (ks op st : List Nat) (al : List (List Nat)) (w : World) : Prop where
  fr : w0.grownBy w (some (B0 + 1))
  hz : w0.heap.size = h
  b1 : B0 + 2 < gto
  b2 : gto < h
  rows : RowsOwn (gto + 1) gto w0 xss
  xn : xss.length = n
  nb : Row w0 B0 3 [iv n]
  pv : Row w0 (B0 + 2) 25 [.slice (some ⟨h + 1, 0, none⟩) n n]
  av : Row w (B0 + 1) 43 [va]
  tv : Row w h 43 [.slice (some ⟨gto, 0, none⟩) n n]
  pa : Row w (h + 1) 3 (pl.map iv)
  pn : pl.length = n
  km : KM w (h + 2) n ks op
  kv : Row w (h + 3) 55 [.map (some (h + 2))]
  ov : Row w (h + 4) 25 [vo]
  vv : Row w (h + 5) 56 [clo]
  oo : w.ownsRow (h + 6) 3 1 vo st.length ((cI st).map iv)
  ao : w.ownsRow (h + 6) 25 1 va al.length hs
  ap : ∀ q, vo.ownBlock = some q → va.ownBlock ≠ some q
  hl : hs.length = al.length
  co : ∀ (i : Nat) (hd : Value) (xs : List Nat), hs[i]? = some hd → al[i]? = some xs → w.ownsRow (h + 6) 3 1 hd xs.length ((cI xs).map iv) ∧ ∀ q, hd.ownBlock = some q → vo.ownBlock ≠ some q ∧ va.ownBlock ≠ some q

section
variable {w0 : World} {B0 h n gto : Nat} {xss : List (List Int)} {clo vo va : Value} {hs : List Value} {pl : List Int} {ks op st : List Nat} {al : List (List Nat)} {w w' : World}
/-- The law of all writes: what P speaks of is given anew. -/
theorem Rep.chg {P : Nat → Prop} (R : Rep w0 B0 h n gto xss clo vo va hs pl ks op st al w) (C : Chg P w w') (hP : ∀ k, P k → k = B0 + 1 ∨ h ≤ k) (p0 : ¬ P h) (p3 : ¬ P (h + 3)) (p5 : ¬ P (h + 5)) {vo' va' : Value} {hs' : List Value} {pl' : List Int} {ks' op' st' : List Nat} {al' : List (List Nat)}
    (av : Row w' (B0 + 1) 43 [va']) (pa : Row w' (h + 1) 3 (pl'.map iv)) (pn : pl'.length = n) (km : KM w' (h + 2) n ks' op') (ov : Row w' (h + 4) 25 [vo']) (oo : w'.ownsRow (h + 6) 3 1 vo' st'.length ((cI st').map iv)) (ao : w'.ownsRow (h + 6) 25 1 va' al'.length hs')
    (ap : ∀ q, vo'.ownBlock = some q → va'.ownBlock ≠ some q) (hl : hs'.length = al'.length) (co : ∀ (i : Nat) (hd : Value) (xs : List Nat), hs'[i]? = some hd → al'[i]? = some xs → w'.ownsRow (h + 6) 3 1 hd xs.length ((cI xs).map iv) ∧ ∀ q, hd.ownBlock = some q → vo'.ownBlock ≠ some q ∧ va'.ownBlock ≠ some q) :
    Rep w0 B0 h n gto xss clo vo' va' hs' pl' ks' op' st' al' w' := by
  have hz := R.hz
  refine ⟨⟨C.os.trans R.fr.os, C.tape.trans R.fr.tape, C.output.trans R.fr.output, Nat.le_trans R.fr.size C.size, fun k hk hne => ?_⟩, R.hz, R.b1, R.b2, R.rows, R.xn, R.nb, R.pv, av, C.row R.tv p0, pa, pn, km, C.row R.kv p3, ov, C.row R.vv p5, oo, ao, ap, hl, co⟩
  refine (C.block k (Nat.lt_of_lt_of_le hk R.fr.size) (fun hp => ?_)).trans (R.fr.block k hk hne)
  rcases hP k hp with e | e
  · exact hne (by rw [e])
  · omega
theorem Rep.big (R : Rep w0 B0 h n gto xss clo vo va hs pl ks op st al w) : h + 5 < w.heap.size := R.vv.lt

theorem Rep.below (R : Rep w0 B0 h n gto xss clo vo va hs pl ks op st al w) (hb : Below w.heap.size w w') : Rep w0 B0 h n gto xss clo vo va hs pl ks op st al w' := by
  have C : Chg (fun _ => False) w w' := .below hb
  exact R.chg C (fun _ => False.elim) id id id (C.row R.av id) (C.row R.pa id) R.pn (C.km R.km id) (C.row R.ov id) (C.own R.oo (fun _ _ => id)) (C.own R.ao (fun _ _ => id)) R.ap R.hl (fun i hd xs h1 h2 => ⟨C.own (R.co i hd xs h1 h2).1 (fun _ _ => id), (R.co i hd xs h1 h2).2⟩)

theorem Rep.base_vo (R : Rep w0 B0 h n gto xss clo vo va hs pl ks op st al w) {q : Nat} (hq : vo.ownBlock = some q) : h + 6 ≤ q ∧ q < w.heap.size := R.oo.lt q hq
theorem Rep.base_va (R : Rep w0 B0 h n gto xss clo vo va hs pl ks op st al w) {q : Nat} (hq : va.ownBlock = some q) : h + 6 ≤ q ∧ q < w.heap.size := R.ao.lt q hq

theorem Rep.put {ks' op' : List Nat} (R : Rep w0 B0 h n gto xss clo vo va hs pl ks op st al w) (hg : w.grownBy w' (some (h + 2))) (hk : KM w' (h + 2) n ks' op') : Rep w0 B0 h n gto xss clo vo va hs pl ks' op' st al w' := by
  have C : Chg (fun k => k = h + 2) w w' := .grown hg (fun q e => by injection e with e; exact e.symm)
  have := R.b1
  have := R.b2
  exact R.chg C (fun k e => .inr (by omega)) (by omega) (by omega) (by omega) (C.row R.av (by omega)) (C.row R.pa (by omega)) R.pn hk (C.row R.ov (by omega)) (C.own R.oo (fun q hq e => by have := R.base_vo hq; omega)) (C.own R.ao (fun q hq e => by have := R.base_va hq; omega)) R.ap R.hl
    (fun i hd xs h1 h2 => ⟨C.own (R.co i hd xs h1 h2).1 (fun q hq e => by have := (R.co i hd xs h1 h2).1.lt q hq; omega), (R.co i hd xs h1 h2).2⟩)

theorem Rep.place (R : Rep w0 B0 h n gto xss clo vo va hs pl ks op st al w) (x : Nat) (c : Int) : Rep w0 B0 h n gto xss clo vo va hs (pl.set x c) ks op st al (w.setCell ⟨h + 1, x, none⟩ (iv c)) := by
  have C : Chg (fun k => k = h + 1) w (w.setCell ⟨h + 1, x, none⟩ (iv c)) := .setCell w rfl
  have := R.b1
  have := R.b2
  exact R.chg C (fun k e => .inr (by omega)) (by omega) (by omega) (by omega) (C.row R.av (by omega)) (by rw [List.map_set]; exact R.pa.set x (iv c)) (by rw [List.length_set]; exact R.pn) (C.km R.km (by omega)) (C.row R.ov (by omega)) (C.own R.oo (fun q hq e => by have := R.base_vo hq; omega)) (C.own R.ao (fun q hq e => by have := R.base_va hq; omega)) R.ap R.hl
    (fun i hd xs h1 h2 => ⟨C.own (R.co i hd xs h1 h2).1 (fun q hq e => by have := (R.co i hd xs h1 h2).1.lt q hq; omega), (R.co i hd xs h1 h2).2⟩)

theorem Rep.pop {A : Option Addr} {c k : Nat} (R : Rep w0 B0 h n gto xss clo (.slice A st.length c) va hs pl ks op st al w) (hk : k ≤ st.length) : Rep w0 B0 h n gto xss clo (.slice A k c) va hs pl ks op (st.take k) al (w.setCell ⟨h + 4, 0, none⟩ (.slice A k c)) := by
  have C : Chg (fun k => k = h + 4) w (w.setCell ⟨h + 4, 0, none⟩ (.slice A k c)) := .setCell w rfl
  have := R.b1
  have := R.b2
  have e : (Value.slice A k c).ownBlock = (Value.slice A st.length c).ownBlock := by cases A <;> rfl
  refine R.chg C (fun k e => .inr (by omega)) (by omega) (by omega) (by omega) (C.row R.av (by omega)) (C.row R.pa (by omega)) R.pn (C.km R.km (by omega)) (R.ov.set 0 _) ?_ (C.own R.ao (fun q hq e => by have := R.base_va hq; omega)) (by rw [e]; exact R.ap) R.hl
    (fun i hd xs h1 h2 => ⟨C.own (R.co i hd xs h1 h2).1 (fun q hq e => by have := (R.co i hd xs h1 h2).1.lt q hq; omega), by rw [e]; exact (R.co i hd xs h1 h2).2⟩)
  have h1 := C.own (own_take R.oo hk) (fun q hq e2 => by rw [e] at hq; have := R.base_vo hq; omega)
  have h2 : (cI (st.take k)).map iv = ((cI st).map iv).take k := by simp [cI, List.map_take]
  rw [h2, List.length_take, Nat.min_eq_left hk]
  exact h1

theorem Rep.push {W w6 u : World} {v : Value} {a : Nat} (R : Rep w0 B0 h n gto xss clo vo va hs pl ks op st al w) (hW : Below w.heap.size w W) (hrow : w6.ownsRow (h + 6) 3 1 v (st.length + 1) ((cI st).map iv ++ [iv a])) (hg : W.grownBy w6 vo.ownBlock) (hat : v.ownBlock = vo.ownBlock ∨ v.ownBlock = some W.heap.size) (hu : Below w6.heap.size w6 u) :
    Rep w0 B0 h n gto xss clo v va hs pl ks op (st ++ [a]) al (u.setCell ⟨h + 4, 0, none⟩ v) := by
  have C6 : Chg (fun k => vo.ownBlock = some k ∨ k = h + 4) w w6 := (Chg.below hW).trans (.grown hg (fun q e => .inl e))
  have C : Chg (fun k => vo.ownBlock = some k ∨ k = h + 4) w (u.setCell ⟨h + 4, 0, none⟩ v) := (C6.trans (.below hu)).trans (.setCell u (.inr rfl))
  have := R.b1
  have := R.b2
  have hv4 : ∀ q, v.ownBlock = some q → h + 6 ≤ q := fun q hq => (hrow.lt q hq).1
  have no : ∀ k, k < h + 6 → k ≠ h + 4 → ¬ (vo.ownBlock = some k ∨ k = h + 4) := fun k h1 h2 h3 => by
    rcases h3 with h3 | h3
    · have := R.base_vo h3; omega
    · exact h2 h3
  have fresh : ∀ q, q < w.heap.size → vo.ownBlock ≠ some q → v.ownBlock ≠ some q := fun q h1 h2 h3 => by
    rcases hat with e | e
    · exact h2 (e.symm.trans h3)
    · rw [h3] at e
      injection e with e
      have := hW.size
      omega
  have hov : Row u (h + 4) 25 [vo] := ((((R.ov.below hW R.ov.lt).grown hg (fun e => by have := R.base_vo e.symm; omega)) : Row w6 (h + 4) 25 [vo]).below hu (by have := R.big; have := hW.size; have := hg.size; omega))
  refine R.chg C (fun k e => ?_) (no _ (by omega) (by omega)) (no _ (by omega) (by omega)) (no _ (by omega) (by omega)) (C.row R.av (no _ (by omega) (by omega))) (C.row R.pa (no _ (by omega) (by omega))) R.pn (C.km R.km (no _ (by omega) (by omega))) (hov.set 0 v) ?_ (C.own R.ao (fun q hq e => ?_)) (fun q hq e => ?_) R.hl
    (fun i hd xs h1 h2 => ⟨C.own (R.co i hd xs h1 h2).1 (fun q hq e => ?_), fun q hq => ⟨fresh q ((R.co i hd xs h1 h2).1.lt q hq).2 ((R.co i hd xs h1 h2).2 q hq).1, ((R.co i hd xs h1 h2).2 q hq).2⟩⟩)
  · rcases e with e | e
    · have := R.base_vo e; exact .inr (by omega)
    · exact .inr (by omega)
  · have e1 : (cI (st ++ [a])).map iv = (cI st).map iv ++ [iv a] := by simp [cI]
    rw [e1, List.length_append]
    refine own_set (own_below hrow hu) (fun e => ?_) v
    have := hv4 _ e
    omega
  · rcases e with e | e
    · exact R.ap q e hq
    · have := R.base_va hq; omega
  · exact fresh q (R.base_va e).2 (fun e2 => R.ap q e2 e) hq
  · rcases e with e | e
    · exact ((R.co i hd xs h1 h2).2 q hq).1 e
    · have := (R.co i hd xs h1 h2).1.lt q hq; omega

theorem Rep.more {W w1 w6 u : World} {v v2 : Value} {ys : List Nat} (R : Rep w0 B0 h n gto xss clo vo va hs pl ks op st al w) (hw : Below w.heap.size w w1) (h2 : w1.ownsRow w.heap.size 3 1 v2 ys.length ((cI ys).map iv)) (hW : Below w1.heap.size w1 W) (hrow : w6.ownsRow (h + 6) 25 1 v (al.length + 1) (hs ++ [v2])) (hg : W.grownBy w6 va.ownBlock) (hat : v.ownBlock = va.ownBlock ∨ v.ownBlock = some W.heap.size) (hu : Below w6.heap.size w6 u) :
    Rep w0 B0 h n gto xss clo vo v (hs ++ [v2]) pl ks op st (al ++ [ys]) (u.setCell ⟨B0 + 1, 0, none⟩ v) := by
  have hwW : Below w.heap.size w W := hw.trans (hW.mono hw.size)
  have C6 : Chg (fun k => va.ownBlock = some k ∨ k = B0 + 1) w w6 := (Chg.below hwW).trans (.grown hg (fun q e => .inl e))
  have C : Chg (fun k => va.ownBlock = some k ∨ k = B0 + 1) w (u.setCell ⟨B0 + 1, 0, none⟩ v) := (C6.trans (.below hu)).trans (.setCell u (.inr rfl))
  have := R.b1
  have := R.b2
  have hbig := R.big
  have hv4 : ∀ q, v.ownBlock = some q → h + 6 ≤ q := fun q hq => (hrow.lt q hq).1
  have no : ∀ k, k < h + 6 → k ≠ B0 + 1 → ¬ (va.ownBlock = some k ∨ k = B0 + 1) := fun k h1 h2 h3 => by
    rcases h3 with h3 | h3
    · have := R.base_va h3; omega
    · exact h2 h3
  have fresh : ∀ q, q < W.heap.size → va.ownBlock ≠ some q → v.ownBlock ≠ some q := fun q h1 h2 h3 => by
    rcases hat with e | e
    · exact h2 (e.symm.trans h3)
    · rw [h3] at e
      injection e with e
      omega
  have hwl := hwW.size
  have hav : Row u (B0 + 1) 43 [va] := ((((R.av.below hwW R.av.lt).grown hg (fun e => by have := R.base_va e.symm; omega)) : Row w6 (B0 + 1) 43 [va]).below hu (by have := hg.size; omega))
  have h2n : ∀ q, v2.ownBlock = some q → w.heap.size ≤ q ∧ q < W.heap.size := fun q hq => ⟨(h2.lt q hq).1, Nat.lt_of_lt_of_le (h2.lt q hq).2 hW.size⟩
  have h2o : (u.setCell ⟨B0 + 1, 0, none⟩ v).ownsRow (h + 6) 3 1 v2 ys.length ((cI ys).map iv) := by
    have C2 : Chg (fun k => va.ownBlock = some k ∨ k = B0 + 1) w1 (u.setCell ⟨B0 + 1, 0, none⟩ v) := (((Chg.below hW).trans (.grown hg (fun q e => .inl e))).trans (.below hu)).trans (.setCell u (.inr rfl))
    refine own_lower (C2.own h2 (fun q hq e => ?_)) (by omega)
    have := h2n q hq
    rcases e with e | e
    · have := R.base_va e; omega
    · omega
  refine R.chg C (fun k e => ?_) (no _ (by omega) (by omega)) (no _ (by omega) (by omega)) (no _ (by omega) (by omega)) (hav.set 0 v) (C.row R.pa (no _ (by omega) (by omega))) R.pn (C.km R.km (no _ (by omega) (by omega))) (C.row R.ov (no _ (by omega) (by omega))) (C.own R.oo (fun q hq e => ?_)) ?_ (fun q hq e => ?_) (by simp [R.hl]) (fun i hd xs h1 h3 => ?_)
  · rcases e with e | e
    · have := R.base_va e; exact .inr (by omega)
    · exact .inl e
  · rcases e with e | e
    · exact R.ap q hq e
    · have := R.base_vo hq; omega
  · rw [List.length_append]
    refine own_set (own_below hrow hu) (fun e => ?_) v
    have := hv4 _ e
    omega
  · exact fresh q (Nat.lt_of_lt_of_le (R.base_vo hq).2 hwl) (R.ap q hq) e
  · by_cases hi : i < hs.length
    · rw [List.getElem?_append_left hi] at h1
      rw [List.getElem?_append_left (by rw [← R.hl]; exact hi)] at h3
      obtain ⟨c1, c2⟩ := R.co i hd xs h1 h3
      refine ⟨C.own c1 (fun q hq e => ?_), fun q hq => ⟨(c2 q hq).1, fresh q (Nat.lt_of_lt_of_le (c1.lt q hq).2 hwl) (c2 q hq).2⟩⟩
      rcases e with e | e
      · exact (c2 q hq).2 e
      · have := c1.lt q hq; omega
    · obtain rfl : i = hs.length := by
        have := (List.getElem?_eq_some_iff.1 h1).1
        simp at this
        omega
      have e1 : v2 = hd := by simpa using h1
      have e2 : ys = xs := by rw [R.hl] at h3; simpa using h3
      subst e1 e2
      refine ⟨h2o, fun q hq => ⟨fun e => ?_, fresh q (h2n q hq).2 (fun e => ?_)⟩⟩
      · have := h2n q hq; have := R.base_vo e; omega
      · have := h2n q hq; have := R.base_va e; omega

theorem Rep.row (R : Rep w0 B0 h n gto xss clo vo va hs pl ks op st al w) {a : Nat} {xs : List Int} (ha : xss[a]? = some xs) : ∃ A c, w.cell? ⟨gto, a, none⟩ = some (.slice A xs.length c) ∧ IsAt w (.slice A xs.length c) xs ∧ gto < w.heap.size := by
  obtain ⟨A, c, h1, h2, _, h4, _⟩ := R.rows.get ha
  have := R.b1
  refine ⟨A, c, ?_, IsAt.own (h2.kept R.fr ?_), Nat.lt_of_lt_of_le h4 R.fr.size⟩
  · rw [← h1]
    exact World.cell?_of_block (R.fr.block gto h4 (fun e => by injection e with e; omega))
  · cases e : (Value.slice A xs.length c).ownBlock with
    | none => exact .inl rfl
    | some q =>
      right
      intro e2
      have := own_base h2 q e
      injection e2 with e2
      omega
/-- The cells that the code reads. -/
theorem Rep.cells (R : Rep w0 B0 h n gto xss clo vo va hs pl ks op st al w) : w.cell? ⟨h, 0, none⟩ = some (.slice (some ⟨gto, 0, none⟩) n n) ∧ w.cell? ⟨h + 3, 0, none⟩ = some (.map (some (h + 2))) ∧ w.cell? ⟨h + 4, 0, none⟩ = some vo ∧ w.cell? ⟨h + 5, 0, none⟩ = some clo ∧ w.cell? ⟨B0 + 1, 0, none⟩ = some va ∧ w.cell? ⟨B0 + 2, 0, none⟩ = some (.slice (some ⟨h + 1, 0, none⟩) n n) ∧ w.cell? ⟨B0, 0, none⟩ = some (.int .i64 n) ∧
    w.frozen? ⟨h + 4, 0, none⟩ = false ∧ w.frozen? ⟨B0 + 1, 0, none⟩ = false ∧ (∀ j, w.frozen? ⟨h + 1, j, none⟩ = false) := by
  have := R.b1
  have := R.b2
  have := R.hz
  refine ⟨R.tv.get rfl, R.kv.get rfl, R.ov.get rfl, R.vv.get rfl, R.av.get rfl, ?_, ?_, R.ov.frozen 0, R.av.frozen 0, R.pa.frozen⟩
  · exact (R.pv.grown R.fr (fun e => by injection e with e; omega)).get rfl
  · exact (R.nb.grown R.fr (fun e => by injection e with e; omega)).get rfl
theorem Rep.place_cell (R : Rep w0 B0 h n gto xss clo vo va hs pl ks op st al w) {x : Nat} (hx : x < n) : ∃ c, pl[x]? = some c ∧ w.cell? ⟨h + 1, x, none⟩ = some (.int .i64 c) := by
  obtain ⟨c, hc⟩ : ∃ c, pl[x]? = some c := ⟨_, List.getElem?_eq_getElem (by rw [R.pn]; exact hx)⟩
  exact ⟨c, hc, R.pa.get (by rw [List.getElem?_map, hc]; rfl)⟩
end

end Go.Proofs.Ytkmbjpgpkgeiaaa
