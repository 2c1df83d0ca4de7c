/- The contracts of the document's Twin, and of spoil: what is copied lies in blocks of the call's own; what is written over turns nothing below them. -/
import Derived.Test.YtmelamlngjflkaaRows
import Derived.WalkKit
import Derived.ProofKit
import Derived.OpenShut
import Derived.Below
import Derived.Outline
import Derived.LoopTactic
import Derived.Test.YtmelamlngjflkaaRep
import Derived.Test.YtmelamlngjflkaaU
import Derived.Lib.Hide
import Derived.WalkSpells
import Derived.Maps.AppendAt
import Derived.RegionTactic
import Derived.BigRegion
import Derived.Deep.RegionWith
import Derived.Test.YtmelamlngjflkaaM
import Derived.Test.YtmelamlngjflkaaQ
import Derived.Test.YtmelamlngjflkaaJ
import Derived.Test.YtmelamlngjflkaaP3
namespace Go.Proofs.Ytmelamlngjflkaa
open Go.ChangeShapes Go.WideShapes Go.ChangeAt Go.RowKit
set_option linter.unusedVariables false

/-- An append onto a row of the call's own of what a slice holds, be it nil or not. -/
theorem run_append_src {P : Program} (w : World) (base : Nat) (t ty e : TypeId) (i : TypeInfo) (z : Value) (size bytes : Nat) (ht : P.underlying t = some (.slice e)) (hi : P.info? e = some i) (hz : i.zero = some z)
    (hsize : i.size = size) (hby : i.bytes = bytes) (hzs : z.cells.size = size) (hsz : 0 < size) (v : Value) (n : Nat) (xs : List Value) (hown : w.ownsRow base e size v n xs)
    (A : Option Addr) (m c : Nat) (news : List Value) (hl : news.length = m * size) (hsrc : ∀ j u, news[j]? = some u → ∃ g o, A = some ⟨g, o, none⟩ ∧ w.cell? ⟨g, o + j, none⟩ = some u) (h1 : ∀ u ∈ news, u.oneCell' = true)
    (h63 : n + m ≤ maxLen) (hbytes : (n + m) * bytes ≤ 140737488355328) (hbase : base ≤ w.heap.size) :
    ∃ v' w', (Builtin.append_ #[t, t] ty #[v, .slice A m c]).run P w = .ok v' w' ∧ w'.ownsRow base e size v' (n + m) (xs ++ news) ∧ w.grownBy w' v.ownBlock ∧ (v'.ownBlock = v.ownBlock ∨ v'.ownBlock = some w.heap.size) := by
  cases A with
  | none =>
    have hn : news = [] := by
      cases news with
      | nil => rfl
      | cons u r =>
        obtain ⟨g, o, e, _⟩ := hsrc 0 u rfl
        cases e
    subst hn
    have hm : m = 0 := by
      have h0 : m * size = 0 := hl.symm
      rcases Nat.mul_eq_zero.1 h0 with h | h <;> omega
    subst hm
    refine ⟨v, w, ?_, by simpa using hown, ⟨rfl, rfl, rfl, Nat.le_refl _, fun _ _ _ => rfl⟩, .inl rfl⟩
    rcases hown.2 with ⟨rfl, rfl⟩ | ⟨g, cap, cur, rfl, _, _, hcap, _⟩
    · simp [Builtin.append_, Builtin.lenOf, Builtin.firstCells, sizeOf, typeInfo, run_underlying ht, hi]
    · simp [Builtin.append_, Builtin.lenOf, Builtin.firstCells, sizeOf, typeInfo, run_underlying ht, hi, hcap, storeCells]
  | some ad =>
    have hat : ∀ j u, news[j]? = some u → w.cell? (ad.add j) = some u := by
      intro j u hu
      obtain ⟨g, o, e, hc⟩ := hsrc j u hu
      injection e with e
      subst e
      rw [add_at]
      exact hc
    obtain ⟨v', w', hr, h2, h3, _, h5⟩ := run_append_own_at (P := P) w base t ty e i z size bytes ht hi hz hsize hby hzs hsz v n xs hown ad m c news hl hat h1 h63 hbytes hbase
    exact ⟨v', w', hr, h2, h3, h5⟩

theorem wpList_append_src {P : Program} {w : World} {ops : Array Oper} {rest : List Oper} {o : Oper} {a : Act} {Q : Exit → Act → World → Prop} (hgd : o.guard = none) (s x : Operand) (t : TypeId)
    (ho : o.op = .call { callee := .builtin .append, args := #[s, x], argTypes := #[t, t] }) (base : Nat) (e : TypeId) (i : TypeInfo) (z : Value) (size bytes : Nat) (ht : P.underlying t = some (.slice e)) (hi : P.info? e = some i) (hz : i.zero = some z)
    (hsize : i.size = size) (hby : i.bytes = bytes) (hzs : z.cells.size = size) (hsz : 0 < size) (v : Value) (n : Nat) (xs : List Value) (hs : a.eval s = v) (hown : w.ownsRow base e size v n xs)
    (A : Option Addr) (m c : Nat) (news : List Value) (hx : a.eval x = .slice A m c) (hl : news.length = m * size) (hsrc : ∀ j u, news[j]? = some u → ∃ g o, A = some ⟨g, o, none⟩ ∧ w.cell? ⟨g, o + j, none⟩ = some u) (h1 : ∀ u ∈ news, u.oneCell' = true)
    (h63 : n + m ≤ maxLen) (hbytes : (n + m) * bytes ≤ 140737488355328) (hbase : base ≤ w.heap.size)
    (h : ∀ v' w', w'.ownsRow base e size v' (n + m) (xs ++ news) → w.grownBy w' v.ownBlock → (v'.ownBlock = v.ownBlock ∨ v'.ownBlock = some w.heap.size) → wpList P ops Q rest (a.put o.dst v') w') :
    wpList P ops Q (o :: rest) a w := by
  refine wpList_plain hgd fun K hK => ?_
  obtain ⟨v', w', hr, h2, h3, h4⟩ := run_append_src (P := P) w base t o.type e i z size bytes ht hi hz hsize hby hzs hsz v n xs hown A m c news hl hsrc h1 h63 hbytes hbase
  unfold Oper.wp execOp
  simp only [ho, resolve, invoke, builtin, Sem.run_bind, Sem.run_pure, Result.andThen_ok, List.map_toArray, List.map_cons, List.map_nil, hs, hx, hr]
  exact hK _ _ (h v' w' h2 h3 h4)

theorem cell_new (w : World) (cs : Array Value) (t : TypeId) (n j : Nat) (hn : n = w.heap.size) : (w.alloc (.cells cs t)).cell? ⟨n, j, none⟩ = cs[j]? := by
  subst hn
  simp

/-- One block more, whose cells were made behind all that was there. -/
theorem lay_more {base : Nat} {w0 w w' : World} {v hv : Value} {ps : List (Blk × Value)} {bk : Blk} {g cap : Nat} (hb0 : base ≤ w0.heap.size) (hw : Below w0.heap.size w0 w)
    (ho : w0.ownsRow base 39 5 v ps.length (ps.flatMap blkCells)) (hin : ∀ g, v.ownBlock = some g → ∀ p ∈ ps, Inn base g w0 p.2 p.1.cells) (hap : Apart ps)
    (hrow : w'.ownsRow base 39 5 (.slice (some ⟨g, 0, none⟩) (ps.length + 1) cap) (ps.length + 1) (ps.flatMap blkCells ++ blkCells (bk, hv))) (hg : w.grownBy w' v.ownBlock) (hat : v.ownBlock = some g ∨ g = w.heap.size)
    (hn : w.ownsRow w0.heap.size 24 4 hv bk.cells.length (bk.cells.flatMap valCells)) : Lay base w' (.slice (some ⟨g, 0, none⟩) (ps.length + 1) cap) (ps.map (·.1) ++ [bk]) := by
  have hold : ∀ p ∈ ps, ∀ b o n c, p.2 = .slice (some ⟨b, o, none⟩) n c → 0 < n → b < w0.heap.size := by
    intro p hp b o n c hp2 hn0
    rcases ho.2 with ⟨rfl, h0⟩ | ⟨q, cap', cur, rfl, _⟩
    · have := List.length_eq_zero_iff.1 h0
      subst this
      cases hp
    · obtain ⟨A, cp, hv, _, _, hx⟩ := hin q rfl p hp
      rw [hp2] at hv
      injection hv with e1 e2 _
      have hk : 0 < p.1.cells.length := by omega
      obtain ⟨b', o', hA, hb, _, hva, _⟩ := hx 0 _ (List.getElem?_eq_getElem hk)
      rw [← e1] at hA
      injection hA with hA
      injection hA with hA
      subst hA
      exact World.block_lt_of_cell? w0 _ hva.1
  have hnew : ∀ b o n c, hv = .slice (some ⟨b, o, none⟩) n c → w0.heap.size ≤ b ∧ b < w.heap.size := fun b o n c e => hn.lt b (by rw [e]; rfl)
  have hgv : ∀ q, v.ownBlock = some q → q < w0.heap.size := fun q hq => (ho.lt q hq).2
  refine ⟨ps ++ [(bk, hv)], by simp, ?_, ?_, ?_⟩
  · rw [List.length_append, List.flatMap_append]
    simpa using hrow
  · intro g' hg' p hp
    obtain rfl : g = g' := by simpa [Value.ownBlock] using hg'
    rw [List.mem_append] at hp
    rcases hp with hp | hp
    · rcases ho.2 with ⟨rfl, h0⟩ | ⟨q, cap', cur, rfl, _⟩
      · have := List.length_eq_zero_iff.1 h0
        subst this
        cases hp
      · exact ((hin q rfl p hp).below hw).moved (Nat.le_refl _) hg (by simp [Value.ownBlock]) (by rcases hat with hat | hat; (exact .inl (by simpa [Value.ownBlock] using hat.symm)); exact .inr hat)
    · simp at hp
      subst hp
      show Inn base g w' hv bk.cells
      rcases hn.2 with ⟨hv0, hz⟩ | ⟨q, cap', cur, hvq, hbq, hq, h1, h2, _, _⟩
      · refine ⟨none, 0, by rw [hv0, hz], by omega, by omega, fun k x hk => ?_⟩
        have := (List.getElem?_eq_some_iff.1 hk).1
        omega
      · obtain ⟨h3, h4⟩ := hnew q 0 _ _ hvq
        have hne : some q ≠ v.ownBlock := fun e => by have := hgv q e.symm; omega
        have hqg : q ≠ g := by
          rcases hat with hat | hat
          · have := hgv g hat; omega
          · omega
        subst hvq
        refine ⟨some ⟨q, 0, none⟩, cap', rfl, h1, Nat.le_trans h1 (by simpa [maxLen] using h2), fun k x hk => ⟨q, 0, rfl, by omega, hqg, ?_, fun j _ => ?_⟩⟩
        · have e : ∀ j, j < 4 → w'.cell? ⟨q, 0 + k * 4 + j, none⟩ = (valCells x)[j]? := by
            intro j hj
            have hk' := (List.getElem?_eq_some_iff.1 hk).1
            rw [hg.cell_far ⟨q, 0 + k * 4 + j, none⟩ h4 hne, Nat.zero_add, hn.cellAt (k * 4 + j) (by omega), flat_get valCells_len _ _ _ hj, hk]
            rfl
          exact ⟨e 0 (by omega), e 1 (by omega), e 2 (by omega), e 3 (by omega)⟩
        · rw [hg.frozen_far ⟨q, 0 + k * 4 + j, none⟩ h4 hne]
          exact hn.frozenAt _
  · intro i j p q hne hi hj b o o' n n' c c' hp2 hq2 hn0 hn0'
    by_cases h1 : i < ps.length
    · rw [List.getElem?_append_left h1] at hi
      by_cases h2 : j < ps.length
      · rw [List.getElem?_append_left h2] at hj
        exact hap i j p q hne hi hj b o o' n n' c c' hp2 hq2 hn0 hn0'
      · have hjl := (List.getElem?_eq_some_iff.1 hj).1
        simp at hjl
        obtain rfl : j = ps.length := by omega
        simp at hj
        subst hj
        have := hold p (List.mem_of_getElem? hi) b o n c hp2 hn0
        have := hnew b o' n' c' hq2
        omega
    · have hil := (List.getElem?_eq_some_iff.1 hi).1
      simp at hil
      obtain rfl : i = ps.length := by omega
      simp at hi
      subst hi
      have h2 : j < ps.length := by
        have hjl := (List.getElem?_eq_some_iff.1 hj).1
        simp at hjl
        omega
      rw [List.getElem?_append_left h2] at hj
      have := hold q (List.mem_of_getElem? hj) b o' n' c' hq2 hn0'
      have := hnew b o n c hp2
      omega

set_option maxHeartbeats 4000000 in
theorem rtwin_any {m : List Blk} {v : Value} (w : World) (hm : BsAt w v m) (hmx : m.length ≤ 4096) (hcx : ∀ b ∈ m, b.cells.length ≤ 40) : Calls Try.prog 23 #[v] w (TwinP m w) := by
  have hm' := hm
  obtain ⟨A, c, rfl, hl, hq⟩ := hm'
  have HM := Lib.hid hm; clear hm
  have HCX := Lib.hid hcx; clear hcx
  clear hq
  obtain ⟨i0, hi, hzz⟩ := Option.map_eq_some_iff.1 info24
  simp only [Prod.mk.injEq] at hzz
  obtain ⟨hz0, hz1, hz2⟩ := hzz
  obtain ⟨j0, hj, hyy⟩ := Option.map_eq_some_iff.1 info39
  simp only [Prod.mk.injEq] at hyy
  obtain ⟨hj0, hj1, hj2⟩ := hyy
  have HI := Lib.hid hi; clear hi
  have HZ0 := Lib.hid hz0; clear hz0
  have HZ1 := Lib.hid hz1; clear hz1
  have HZ2 := Lib.hid hz2; clear hz2
  have HJ := Lib.hid hj; clear hj
  have HJ0 := Lib.hid hj0; clear hj0
  have HJ1 := Lib.hid hj1; clear hj1
  have HJ2 := Lib.hid hj2; clear hj2
  go_enter Try.func23, Try.ntmps23
  go_wp2_with fail
  go_loopw [3, 4, 5] (fun s i _ wr => ∃ k : Nat, k ≤ m.length ∧ i = .int .i64 k ∧ Lay w.heap.size wr s (m.take k) ∧ Below w.heap.size w wr) (fun _ i _ _ => m.length - (intOf i).toNat)
  case atStart => exact ⟨0, Nat.zero_le _, rfl, by simpa using Lay.no _ _, Below.refl _ _⟩
  case round =>
    obtain ⟨k, hk, rfl, hlay, hb⟩ := hrel
    have HB := Lib.hid hb; clear hb
    by_cases hlt : k < m.length
    · have HLT := Lib.hid hlt
      obtain ⟨ps, hps, hown, hin, hap⟩ := hlay
      have hpl : ps.length = k := by have := congrArg List.length hps; simp at this; omega
      have HPS := Lib.hid hps; clear hps
      have HPL := Lib.hid hpl
      have HIN := Lib.hid hin; clear hin
      have HAP := Lib.hid hap; clear hap
      have HOWN := Lib.hid hown
      obtain ⟨As, cs, rfl⟩ := own_slice hown
      clear hown hpl
      obtain ⟨b, hbk⟩ : ∃ b, m[k]? = some b := ⟨_, List.getElem?_eq_getElem hlt⟩
      have HBK := Lib.hid hbk
      have hc40 := HCX.out b (List.mem_of_getElem? hbk)
      obtain ⟨g, og, rfl, hg, q0, q1, q2, q3, hv, q4, h5⟩ := HM.out.get hbk
      obtain ⟨Ai, ci, rfl, hl5, hx5⟩ := h5
      clear hbk
      have hgr : g < wr.heap.size := Nat.lt_of_lt_of_le hg HB.out.size
      replace q0 := cell_below HB.out q0
      replace q1 := cell_below HB.out q1
      replace q2 := cell_below HB.out q2
      replace q3 := cell_below HB.out q3
      replace q4 := cell_below HB.out q4
      have HX : Hid (∀ (w' : World), Below wr.heap.size wr w' → ∀ j u, (b.cells.flatMap valCells)[j]? = some u → ∃ g o, Ai = some ⟨g, o, none⟩ ∧ w'.cell? ⟨g, o + j, none⟩ = some u) := by
        intro w' hw' j u hu
        obtain ⟨q, i, x, rfl, hq, hx⟩ := flat_at (by omega) valCells_len hu
        obtain ⟨g1, o1, hA, hv⟩ := hx5 q x hq
        refine ⟨g1, o1, hA, ?_⟩
        have hv' := (hv.below HB.out).below hw'
        rw [← Nat.add_assoc]
        match i, hx with
        | 0, hx => injection hx with hx; subst hx; exact hv'.1
        | 1, hx => injection hx with hx; subst hx; exact hv'.2.1
        | 2, hx => injection hx with hx; subst hx; exact hv'.2.2.1
        | 3, hx => injection hx with hx; subst hx; exact hv'.2.2.2
        | i + 4, hx => cases hx
      clear hx5
      have hmx2 : k + 1 ≤ 4096 := by omega
      have BOX : Hid (Below wr.heap.size wr ((wr.alloc (.cells #[.int .i64 b.site, .int .i64 b.ty, .int .i64 b.dep, .bool b.alive, .slice Ai b.cells.length ci] 39)).alloc (.cells #[] 24))) := ((Below.refl _ _).alloc (Nat.le_refl _) _).alloc (by simp) _
      have hlit : Hid ((((wr.alloc (.cells #[.int .i64 b.site, .int .i64 b.ty, .int .i64 b.dep, .bool b.alive, .slice Ai b.cells.length ci] 39)).alloc (.cells #[] 24))).ownsRow (wr.heap.size + 1) 24 4 (.slice (some ⟨wr.heap.size + 1, 0, none⟩) 0 0) 0 []) := by
        have := World.ownsRow_lit (base := wr.heap.size + 1) (wr.alloc (.cells #[.int .i64 b.site, .int .i64 b.ty, .int .i64 b.dep, .bool b.alive, .slice Ai b.cells.length ci] 39)) (e := 24) (size := 4) #[] 0 (by simp) (by decide) rfl
        simpa [Hid] using this
      have HONE := Lib.hid (val_one b.cells)
      go_wp2_with (at_builtin; refine wpList_append_src rfl _ _ 37 rfl (wr.heap.size + 1) 24 i0 _ 4 32 Try.underlying37 HI.out HZ0.out HZ1.out HZ2.out rfl (by decide) _ 0 [] rfl hlit.out Ai b.cells.length ci (b.cells.flatMap valCells) rfl ?c1 (HX.out _ BOX.out) HONE.out ?c3 ?c4 ?c5 ?_)
      case c1 => rw [flat_len valCells_len]
      case c3 => simp only [maxLen]; omega
      case c4 => omega
      case c5 => simp
      intro v1 w1 hown1 hgrow1 hat1
      replace hown1 : w1.ownsRow (wr.heap.size + 1) 24 4 v1 b.cells.length (b.cells.flatMap valCells) := by simpa using hown1
      obtain ⟨A1, c1, rfl⟩ := own_slice hown1
      have HO1 := Lib.hid hown1; clear hown1
      have BW : Hid (Below (wr.heap.size + 1) (wr.alloc (.cells #[.int .i64 b.site, .int .i64 b.ty, .int .i64 b.dep, .bool b.alive, .slice Ai b.cells.length ci] 39)) w1) :=
        ((Below.refl _ _).alloc (by simp) _).grown hgrow1 (by simp) (fun q hq => by simp [Value.ownBlock] at hq; omega)
      have BW0 : Hid (Below wr.heap.size wr w1) := ((Below.refl _ _).alloc (Nat.le_refl _) _).trans (BW.out.mono (by omega))
      have z1 : wr.heap.size < w1.heap.size := by have := BW.out.size; simp at this; omega
      have x0 : w1.cell? ⟨wr.heap.size, 0, none⟩ = some (.int .i64 b.site) := (BW.out.cell (p := ⟨wr.heap.size, 0, none⟩) (by simp)).trans (by simp)
      have x1 : w1.cell? ⟨wr.heap.size, 1, none⟩ = some (.int .i64 b.ty) := (BW.out.cell (p := ⟨wr.heap.size, 1, none⟩) (by simp)).trans (by simp)
      have x2 : w1.cell? ⟨wr.heap.size, 2, none⟩ = some (.int .i64 b.dep) := (BW.out.cell (p := ⟨wr.heap.size, 2, none⟩) (by simp)).trans (by simp)
      have x3 : w1.cell? ⟨wr.heap.size, 3, none⟩ = some (.bool b.alive) := (BW.out.cell (p := ⟨wr.heap.size, 3, none⟩) (by simp)).trans (by simp)
      have x4 : w1.cell? ⟨wr.heap.size, 4, none⟩ = some (.slice Ai b.cells.length ci) := (BW.out.cell (p := ⟨wr.heap.size, 4, none⟩) (by simp)).trans (by simp)
      have xf : w1.frozen? ⟨wr.heap.size, 4, none⟩ = false := (BW.out.frozen (p := ⟨wr.heap.size, 4, none⟩) (by simp)).trans (by simp)
      clear q0 q1 q2 q3 q4 hgrow1 hat1
      have W2 : Hid (Below wr.heap.size wr ((w1.setCell ⟨wr.heap.size, 4, none⟩ (.slice A1 b.cells.length c1)).alloc (.cells #[.int .i64 b.site, .int .i64 b.ty, .int .i64 b.dep, .bool b.alive, .slice A1 b.cells.length c1] 39))) :=
        ((BW0.out.setCell (Nat.le_refl _) _).alloc (by simp; omega) _)
      have hold : Hid ((((w1.setCell ⟨wr.heap.size, 4, none⟩ (.slice A1 b.cells.length c1)).alloc (.cells #[.int .i64 b.site, .int .i64 b.ty, .int .i64 b.dep, .bool b.alive, .slice A1 b.cells.length c1] 39))).ownsRow w.heap.size 39 5 (.slice As ps.length cs) ps.length (ps.flatMap blkCells)) := own_below HOWN.out W2.out
      have HPK := HPL.out
      go_wp2_with (at_builtin; refine wpList_append_own_at _ rfl _ _ 22 rfl w.heap.size 39 j0 _ 5 56 Try.underlying22 HJ.out HJ0.out HJ1.out HJ2.out rfl (by decide) _ ps.length (ps.flatMap blkCells) rfl hold.out ⟨w1.heap.size, 0, none⟩ 1 1 (blkCells (b, .slice A1 b.cells.length c1)) rfl rfl ?d1 ?d2 ?d3 ?d4 ?d5 ?_)
      case d1 =>
        intro j u hj
        rw [add_at]
        match j, hj with
        | 0, hj => injection hj with hj; subst hj; exact cell_new _ _ _ _ 0 (by simp)
        | 1, hj => injection hj with hj; subst hj; exact cell_new _ _ _ _ 1 (by simp)
        | 2, hj => injection hj with hj; subst hj; exact cell_new _ _ _ _ 2 (by simp)
        | 3, hj => injection hj with hj; subst hj; exact cell_new _ _ _ _ 3 (by simp)
        | 4, hj => injection hj with hj; subst hj; exact cell_new _ _ _ _ 4 (by simp)
        | j + 5, hj => cases hj
      case d2 =>
        intro u hu
        simp only [blkCells, List.mem_cons, List.not_mem_nil, or_false] at hu
        rcases hu with rfl | rfl | rfl | rfl | rfl <;> rfl
      case d3 => simp only [maxLen]; omega
      case d4 => omega
      case d5 => have := W2.out.size; have := HB.out.size; omega
      intro v2 w2 hown2 hgrow2 _ hat2
      have HO2 := Lib.hid hown2; clear hown2
      have HG2 := Lib.hid hgrow2; clear hgrow2
      have HA2 := Lib.hid hat2; clear hat2
      go_wp2
      go_roundw
      case rel =>
        clear HPK
        obtain rfl := HPL.out
        obtain ⟨g2, c2, rfl⟩ : ∃ g2 c2, v2 = .slice (some ⟨g2, 0, none⟩) (ps.length + 1) c2 := by
          rcases HO2.out.2 with ⟨_, hn⟩ | ⟨g2, cap, cur, hv, _⟩
          · omega
          · exact ⟨g2, cap, hv⟩
        refine ⟨ps.length + 1, HLT.out, by go_num, ?_, ?_⟩
        · have hn1 : (((w1.setCell ⟨wr.heap.size, 4, none⟩ (.slice A1 b.cells.length c1)).alloc (.cells #[.int .i64 b.site, .int .i64 b.ty, .int .i64 b.dep, .bool b.alive, .slice A1 b.cells.length c1] 39))).ownsRow wr.heap.size 24 4 (.slice A1 b.cells.length c1) b.cells.length (b.cells.flatMap valCells) :=
            (own_lower (own_far HO1.out (gb := wr.heap.size) (j := 4) (by omega) (.slice A1 b.cells.length c1)) (by omega)).alloc _
          have := lay_more (bk := b) (w0 := wr) (base := w.heap.size) HB.out.size W2.out HOWN.out HIN.out HAP.out HO2.out HG2.out (by
            rcases HA2.out with h | h
            · exact .inl (by rw [← h]; rfl)
            · exact .inr (by simpa [Value.ownBlock] using h)) hn1
          rw [HPS.out] at this
          rwa [List.take_succ_eq_append_getElem HLT.out, (List.getElem?_eq_some_iff.1 HBK.out).2]
        · refine HB.out.trans ((W2.out.mono HB.out.size).grown HG2.out (by have := W2.out.size; have := HB.out.size; omega) (fun q hq => (own_base HOWN.out q hq)))
      case measure => have := HLT.out; simp [intOf]; omega
    · have : k = m.length := by omega
      subst this
      rw [List.take_length] at hlay
      have HL := Lib.hid hlay; clear hlay
      go_wp2
      go_ret
      exact ⟨_, rfl, HL.out, HB.out⟩

theorem Shape.refl (m : List Blk) : Shape m m := ⟨rfl, fun i b h => ⟨b, h, rfl, rfl⟩⟩
theorem Shape.trans {m m1 m2 : List Blk} (h : Shape m m1) (g : Shape m1 m2) : Shape m m2 := ⟨g.1.trans h.1, fun i b hb => by
  obtain ⟨b1, h1, h2, h3⟩ := h.2 i b hb
  obtain ⟨b2, g1, g2, g3⟩ := g.2 i b1 h1
  exact ⟨b2, g1, g2.trans h2, g3.trans h3⟩⟩

set_option maxHeartbeats 4000000 in
theorem spoil_any {base : Nat} {m : List Blk} {v : Value} (w : World) (hm : Lay base w v m) (hmx : m.length ≤ 4096) (hcx : ∀ b ∈ m, b.cells.length ≤ 40) : Calls Try.prog 27 #[v] w fun e w' => e = .returned (.tuple #[]) ∧ Below base w w' := by
  obtain ⟨A, c, rfl, hl⟩ := hm.len
  have HM := Lib.hid hm; clear hm
  have HCX := Lib.hid hcx; clear hcx
  go_enter Try.func27, Try.ntmps27
  go_wp2_with fail
  go_loopw [2, 3] (fun i _ wr => ∃ k : Nat, k ≤ m.length ∧ i = .int .i64 k ∧ ∃ m' : List Blk, Shape m m' ∧ Lay base wr (.slice A m.length c) m' ∧ Below base w wr) (fun i _ _ => m.length - (intOf i).toNat)
  case atStart => exact ⟨0, Nat.zero_le _, rfl, m, Shape.refl m, HM.out, Below.refl _ _⟩
  case round =>
    obtain ⟨k, hk, rfl, m1, hs1, hlay1, hb⟩ := hrel
    have HB := Lib.hid hb; clear hb
    have HS1 := Lib.hid hs1; clear hs1
    by_cases hlt : k < m.length
    · have HLT := Lib.hid hlt
      obtain ⟨b, hbk⟩ : ∃ b, m[k]? = some b := ⟨_, List.getElem?_eq_getElem hlt⟩
      have hc40 := HCX.out b (List.mem_of_getElem? hbk)
      have HBK := Lib.hid hbk; clear hbk
      obtain ⟨g, cap, ps, e, _, hbg, hg, _, _, _⟩ := hlay1.form (by rw [HS1.out.1]; omega)
      injection e with e1 _ e3
      subst e1 e3
      have HL1 := Lib.hid hlay1; clear hlay1
      obtain ⟨wo, rfl⟩ : ∃ wo : World, wo = wr := ⟨_, rfl⟩
      go_wp2_with fail
      go_loopw [3] (fun j w2 => ∃ n : Nat, n ≤ b.cells.length ∧ j = .int .i64 n ∧ ∃ m2 : List Blk, Shape m m2 ∧ Lay base w2 (.slice (some ⟨g, 0, none⟩) m.length c) m2 ∧ Below base w w2) (fun j _ => b.cells.length - (intOf j).toNat)
      case atStart => exact ⟨0, Nat.zero_le _, rfl, m1, HS1.out, HL1.out, HB.out⟩
      case round =>
        obtain ⟨n, hn, rfl, m2, hs2, hlay2, hb2⟩ := hrel
        have HB2 := Lib.hid hb2; clear hb2
        have HS2 := Lib.hid hs2; clear hs2
        obtain ⟨b2, hb2, hl2, _⟩ := HS2.out.2 k b HBK.out
        have HBK2 := Lib.hid hb2
        obtain ⟨q0, _, _, _, hf, _, hgw⟩ := hlay2.head hb2
        obtain ⟨g3, o3, A3, c3, e3, _, _, _, _, _, q4, h5⟩ := hlay2.reads.look hb2
        injection e3 with e3
        injection e3 with e4 e5
        subst e4 e5
        simp only [Nat.zero_add] at q4
        rw [hl2] at q4
        by_cases hnl : n < b.cells.length
        · have HNL := Lib.hid hnl
          obtain ⟨x, hxn⟩ : ∃ x, b2.cells[n]? = some x := ⟨_, List.getElem?_eq_getElem (by omega)⟩
          obtain ⟨bb, ob, cb, hcell, hbb, hbg2, hbs, hva, hfz⟩ := hlay2.at hb2 hxn
          rw [hl2] at hcell
          rw [q4] at hcell
          injection hcell with hcell
          injection hcell with e6 _ e7
          subst e6 e7
          have HL2 := Lib.hid hlay2; clear hlay2
          have HXN := Lib.hid hxn; clear hxn
          have t0 := hva.1
          have ft : wr.frozen? ⟨bb, ob + n * 4, none⟩ = false := hfz 0 (by omega)
          have HQ4 := Lib.hid q4
          clear hva hfz hb2 h5 hf q0
          go_wp2
          go_roundw
          case rel =>
            refine ⟨n + 1, HNL.out, by go_num, _, ?_, HL2.out.cell HBK2.out HXN.out (x' := ⟨9, x.n, x.b, x.o⟩) HQ4.out (j := 0) (by omega) (u := .int .u8 9) rfl, HB2.out.setCell hbb _⟩
            exact HS2.out.trans (shape_set HBK2.out (by simp) rfl)
          case measure => have := HNL.out; simp [intOf]; omega
        · have : n = b.cells.length := by omega
          subst this
          have HL2 := Lib.hid hlay2; clear hlay2
          have ff := hf (k * 5)
          clear hb2 h5 hf
          go_wp2
          go_roundw
          case rel =>
            refine ⟨k + 1, HLT.out, by go_num, m2.set k { b2 with site := -7 }, HS2.out.trans (shape_set HBK2.out rfl rfl), ?_, HB2.out.setCell hbg _⟩
            exact HL2.out.field HBK2.out (b' := { b2 with site := -7 }) rfl (j := 0) (by omega) (u := .int .i64 (-7)) (fun _ => rfl)
          case measure => have := HLT.out; simp [intOf]; omega
    · have : k = m.length := by omega
      subst this
      go_wp2
      go_end0
      exact ⟨rfl, HB.out⟩

end Go.Proofs.Ytmelamlngjflkaa
