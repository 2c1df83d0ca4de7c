/- KnotTells: knots' heads and ranks, and whether a point is tied, or the errors, are the document's, at every graph and point; the graph stays; the call answers true, and what is handed in reads as before. No condition. -/
import Derived.Test.YtkmbjpgpkgeiaaaRows
import Derived.WalkKit
import Derived.ProofKit
import Derived.OpenShut
import Derived.Below
import Derived.Outline
import Derived.LoopTactic
import Derived.Lib.Hide
import Derived.WalkSpells
import Derived.RegionTactic
import Derived.BigRegion
import Derived.Deep.QuietTactic
import Derived.BigQuiet
import Derived.Deep.RegionWith
import Derived.Test.YtkmbjpgpkgeiaaaO
import Derived.Test.YtkmbjpgpkgeiaaaG
import Derived.Test.YtkmbjpgpkgeiaaaF1
import Derived.ChangeKeysEq
import Derived.Test.YtkmbjpgpkgeiaaaF5
import Derived.Test.YtkmbjpgpkgeiaaaF6
namespace Go.Proofs.Ytkmbjpgpkgeiaaa.knotTells
open Go.Joins Go.ChangeShapes Go.WideShapes Go.ChangeAt Go.RowKit Go.Deep
set_option linter.unusedVariables false

theorem great_at {l : List (Int × Int)} {v : Value} {n : Int} {b : Bool} (h : greatB n l = b) (w : World) (hl : EsAt w v l) : Calls Try.prog 9 #[.int .i64 n, v] w fun e w' => e = .returned (.bool b) ∧ w = w' := by
  subst h
  exact great_any n w hl
theorem is_form {w : World} {v : Value} {l : List Int} {N : Nat} (h : IsAt w v l) (hl : l.length = N) : ∃ A c, v = .slice A N c := by
  obtain ⟨A, c, rfl, _, _⟩ := h
  exact ⟨A, c, by rw [hl]⟩
def TrueP (w : World) (e : Ending) (w' : World) : Prop := e = .returned (.bool true) ∧ Below w.heap.size w w'

theorem info32 : (Try.prog.info? 32).map (fun i => (i.zero, i.size, i.bytes)) = some (some (.agg #[.int .i64 0, .int .i64 0]), 2, 16) := by kernel_rfl
def pv (p : Int × Int) : List Value := [.int .i64 p.1, .int .i64 p.2]
theorem flat2 : ∀ (l : List (Int × Int)) (k : Nat), (l.flatMap pv)[k * 2]? = l[k]?.map (fun p => Value.int .i64 p.1) ∧ (l.flatMap pv)[k * 2 + 1]? = l[k]?.map (fun p => Value.int .i64 p.2)
  | [], k => by simp
  | p :: r, 0 => by simp [pv]
  | p :: r, k + 1 => by
    have h := flat2 r k
    have e1 : (k + 1) * 2 = k * 2 + 1 + 1 := by omega
    have e2 : (k + 1) * 2 + 1 = k * 2 + 1 + 1 + 1 := by omega
    rw [e1]
    simp only [List.flatMap_cons, pv, List.cons_append, List.nil_append, List.getElem?_cons_succ]
    exact h
theorem flat_len (l : List (Int × Int)) : (l.flatMap pv).length = l.length * 2 := by
  induction l with
  | nil => rfl
  | cons p r ih => simp [pv, ih]; omega
theorem es_src {w : World} {A : Option Addr} {n c : Nat} {l : List (Int × Int)} (h : EsAt w (.slice A n c) l) : ∀ j u, (l.flatMap pv)[j]? = some u → ∃ g o, A = some ⟨g, o, none⟩ ∧ w.cell? ⟨g, o + j, none⟩ = some u := by
  intro j u hj
  rcases Nat.mod_two_eq_zero_or_one j with hm | hm
  · obtain ⟨k, rfl⟩ : ∃ k, j = k * 2 := ⟨j / 2, by omega⟩
    rw [(flat2 l k).1, Option.map_eq_some_iff] at hj
    obtain ⟨p, hp, rfl⟩ := hj
    obtain ⟨g, o, e, _, h1, _⟩ := h.get hp
    exact ⟨g, o, e, h1⟩
  · obtain ⟨k, rfl⟩ : ∃ k, j = k * 2 + 1 := ⟨j / 2, by omega⟩
    rw [(flat2 l k).2, Option.map_eq_some_iff] at hj
    obtain ⟨p, hp, rfl⟩ := hj
    obtain ⟨g, o, e, _, _, h1⟩ := h.get hp
    exact ⟨g, o, e, h1⟩
theorem es_one (l : List (Int × Int)) : ∀ u ∈ l.flatMap pv, u.oneCell' = true := by
  intro u hu
  simp only [List.mem_flatMap, pv, List.mem_cons, List.not_mem_nil, or_false] at hu
  obtain ⟨p, _, rfl | rfl⟩ := hu <;> rfl
theorem es_own {w : World} {base : Nat} {v : Value} {l : List (Int × Int)} (h : w.ownsRow base 32 2 v l.length (l.flatMap pv)) : EsAt w v l := by
  rcases h.2 with ⟨rfl, hn⟩ | ⟨g, cap, cur, rfl, _, _, h1, h2, _⟩
  · have : l = [] := List.eq_nil_of_length_eq_zero hn
    subst this
    exact es_nil w
  · refine ⟨_, cap, rfl, Nat.le_trans h1 (by simpa [maxLen] using h2), fun k x hk => ⟨g, 0, rfl, ?_, ?_⟩⟩
    · have hk' := (List.getElem?_eq_some_iff.1 hk).1
      rw [Nat.zero_add, h.cellAt (k * 2) (by omega), (flat2 l k).1, hk]
      rfl
    · have hk' := (List.getElem?_eq_some_iff.1 hk).1
      rw [Nat.zero_add, h.cellAt (k * 2 + 1) (by omega), (flat2 l k).2, hk]
      rfl
theorem run_eq2 (x y : Int) (w : World) : (Op.equal 32 (.agg #[.int .i64 x, .int .i64 y]) (.agg #[.int .i64 x, .int .i64 y])).run Try.prog w = .ok true w := by
  obtain ⟨i0, hi, _⟩ := info_parts info3
  have c3 : Try.prog.cellsOf 3 = 1 := by kernel_rfl
  have p0 : ∀ w, (part 3 #[.int .i64 x, .int .i64 y] 0).run Try.prog w = .ok (.int .i64 x) w := fun w => by kernel_rfl
  have p1 : ∀ w, (part 3 #[.int .i64 x, .int .i64 y] 1).run Try.prog w = .ok (.int .i64 y) w := fun w => by kernel_rfl
  have e : ∀ (z : Int) (w : World), (Op.equalIn 9999 3 (.int .i64 z) (.int .i64 z)).run Try.prog w = .ok true w := fun z w => by
    rw [run_equalIn_int w 9998 3 .i64 .i64 z z Try.underlying3]
    simp
  refine (run_equalIn_array (P := Try.prog) w 9999 (e := 3) (n := 2) (i := i0) _ _ u32 hi).trans ?_
  rw [c3, show List.range 2 = [0, 1] from rfl]
  simp [Op.eqItems, Sem.run_bind, Result.andThen_ok, p0, p1, e]
theorem run_same (x y : Int) : ∀ w : World, (binOp .neq 32 (.agg #[.int .i64 x, .int .i64 y]) (.agg #[.int .i64 x, .int .i64 y])).run Try.prog w = .ok (.bool false) w := by
  intro w
  simp [binOp, go_sem, run_eq2]
theorem same_same' {l : List Int} {v u : Value} (w : World) (hl : IsAt w v l) (hm : IsAt w u l) : Calls Try.prog 18 #[v, u] w fun e w' => e = .returned (.bool true) ∧ Below w.heap.size w w' := by
  have := sameInts_any w hl hm
  rw [decide_eq_true rfl] at this
  exact this
theorem ranks_of {n : Int} {l : List (Int × Int)} {x : List Int} (h : ∀ N : Nat, n = (N : Int) → chkI n l = 0 → RankL (toL (toN l)) N x) : ∀ N : Nat, n = (N : Int) → chkI n l = 0 → ∃ R, IsRanks (toL (toN l)) N R ∧ ∀ a, a < N → R a ≤ N := fun N hN hc => by
  obtain ⟨_, R, h1, _, h2⟩ := h N hN hc
  exact ⟨R, h1, h2⟩
theorem head_eq {n : Int} {l : List (Int × Int)} {x y : List Int} (h1 : chkI n l ≠ 0 → x = []) (h2 : ∀ N : Nat, n = (N : Int) → chkI n l = 0 → HeadL (toL (toN l)) N x) (h3 : chkI n l ≠ 0 → y = []) (h4 : ∀ N : Nat, n = (N : Int) → chkI n l = 0 → HeadL (toL (toN l)) N y) : x = y := by
  by_cases hc : chkI n l = 0
  · obtain ⟨N, rfl, _⟩ := chk_ok hc
    exact (h2 N rfl hc).unique (h4 N rfl hc)
  · rw [h1 hc, h3 hc]
theorem rank_eq {n : Int} {l : List (Int × Int)} {x y : List Int} (h1 : chkI n l ≠ 0 → x = []) (h2 : ∀ N : Nat, n = (N : Int) → chkI n l = 0 → RankL (toL (toN l)) N x) (h3 : chkI n l ≠ 0 → y = []) (h4 : ∀ N : Nat, n = (N : Int) → chkI n l = 0 → RankL (toL (toN l)) N y) : x = y := by
  by_cases hc : chkI n l = 0
  · obtain ⟨N, rfl, _, _, _, hp⟩ := chk_ok hc
    exact (h2 N rfl hc).unique (to_lt hp) (h4 N rfl hc)
  · rw [h1 hc, h3 hc]
theorem tied_eq {n a : Int} {l : List (Int × Int)} {b c : Bool} (h1 : tieI n l a ≠ 0 → b = false) (h2 : ∀ N A : Nat, n = (N : Int) → a = (A : Int) → tieI n l a = 0 → (b = true ↔ ∃ p ∈ toN l, p.1 = A ∧ Reach (toL (toN l)) p.2 A)) (h3 : tieI n l a ≠ 0 → c = false) (h4 : ∀ N A : Nat, n = (N : Int) → a = (A : Int) → tieI n l a = 0 → (c = true ↔ ∃ p ∈ toN l, p.1 = A ∧ Reach (toL (toN l)) p.2 A)) : b = c := by
  by_cases hc : tieI n l a = 0
  · obtain ⟨hk, ha0, ha1⟩ := tie_split hc
    obtain ⟨N, rfl, _⟩ := chk_ok hk
    obtain ⟨A, rfl⟩ : ∃ A : Nat, a = (A : Int) := ⟨a.toNat, by omega⟩
    have h5 := (h2 N A rfl rfl hc).trans (h4 N A rfl rfl hc).symm
    cases b <;> cases c <;> simp_all
  · rw [h1 hc, h3 hc]

set_option maxRecDepth 100000 in
set_option maxHeartbeats 8000000 in
theorem core {l : List (Int × Int)} {v : Value} (n a : Int) (w : World) (hl : EsAt w v l) : Calls Try.prog 6 #[.int .i64 n, v, .int .i64 a] w (TrueP w) := by
  obtain ⟨Al, cl, rfl, hmx⟩ : ∃ A c, v = .slice A l.length c ∧ l.length ≤ 9223372036854775807 := by
    obtain ⟨A, c, h1, h2, _⟩ := hl
    exact ⟨A, c, h1, h2⟩
  have HL := Lib.hid hl; clear hl
  cases hg : greatB n l with
  | true =>
    go_enter Try.func6, Try.ntmps6
    go_wp2_with fail
    (with_reducible refine (great_at hg _ HL.out).mono ?_); rintro e _ ⟨rfl, rfl⟩
    go_wp2
    go_ret
    exact ⟨rfl, Below.refl _ _⟩
  | false =>
    have hlen : l.length ≤ 200 := by
      unfold greatB at hg
      simp at hg
      omega
    obtain ⟨i0, hi, hz0, hz1, hz2⟩ := info_parts info32
    have HI := Lib.hid hi; clear hi
    have HZ0 := Lib.hid hz0; clear hz0
    have HZ1 := Lib.hid hz1; clear hz1
    have HZ2 := Lib.hid hz2; clear hz2
    have hown : Hid ((w.alloc (.cells #[] 32)).ownsRow w.heap.size 32 2 (.slice (some ⟨w.heap.size, 0, none⟩) 0 0) 0 []) := World.ownsRow_lit w #[] 0 (Nat.le_refl _) (by decide) rfl
    have hsrc := Lib.hid (es_src (HL.out.below ((Below.refl w.heap.size w).alloc (Nat.le_refl _) (.cells #[] 32))))
    have hone := Lib.hid (es_one l)
    go_enter Try.func6, Try.ntmps6
    go_wp2_with fail
    (with_reducible refine (great_at hg _ HL.out).mono ?_); rintro e _ ⟨rfl, rfl⟩
    clear hg
    go_wp2_with (at_builtin; refine wpList_append_src rfl _ _ 22 rfl w.heap.size 32 i0 _ 2 16 Try.underlying22 HI.out HZ0.out HZ1.out HZ2.out rfl (by decide) _ 0 [] rfl hown.out Al l.length cl (l.flatMap pv) rfl ?c1 hsrc.out hone.out ?c3 ?c4 ?c5 ?_)
    case c1 => exact flat_len l
    case c3 => simp only [maxLen]; omega
    case c4 => omega
    case c5 => simp
    intro v' w' hown' hgrow hat
    have HOE : Hid (EsAt w' v' l) := Lib.hid (es_own (by simpa using hown'))
    have BX : Hid (Below w.heap.size w w') := ((Below.refl _ _).alloc (Nat.le_refl _) _).grown hgrow (by simp) (fun k hk => by simp [Value.ownBlock] at hk; omega)
    clear hown' hgrow hat hown hsrc hone
    obtain ⟨Ao, co, rfl⟩ : ∃ A c, v' = .slice A l.length c := by
      obtain ⟨A, c, h1, _⟩ := HOE.out
      exact ⟨A, c, h1⟩
    have HLE := Lib.hid (HL.out.below BX.out)
    go_wp2_with fail
    (with_reducible refine (heads_any n _ HOE.out).mono ?_); rintro e w2 ⟨xv, x, rfl, hx, h, x1, x2⟩
    have HX := Lib.hid hx; have HOE := Lib.hid (HOE.out.below h); have HLE := Lib.hid (HLE.out.below h); have BX := Lib.hid (BX.out.trans (h.mono BX.out.size)); clear hx h
    go_wp2_with fail
    (with_reducible refine (rheads_any n _ HLE.out).mono ?_); rintro e w3 ⟨yv, y, rfl, hy, h, y1, y2⟩
    have HE : Hid (x = y) := head_eq x1 x2 y1 y2
    have HX := Lib.hid (HX.out.below h)
    have HY : Hid (IsAt w3 yv x) := Lib.hid (by rw [HE.out]; exact hy)
    have HOE := Lib.hid (HOE.out.below h); have HLE := Lib.hid (HLE.out.below h); have BX := Lib.hid (BX.out.trans (h.mono BX.out.size)); clear hy h x1 x2 y1 y2 HE
    go_wp2_with fail
    (with_reducible refine (ranks_any n _ HOE.out).mono ?_); rintro e w4 ⟨cv, c, rfl, hcx, h, c1, c2⟩
    have HCX := Lib.hid hcx; have HX := Lib.hid (HX.out.below h); have HY := Lib.hid (HY.out.below h); have HOE := Lib.hid (HOE.out.below h); have HLE := Lib.hid (HLE.out.below h); have BX := Lib.hid (BX.out.trans (h.mono BX.out.size)); clear hcx h
    go_wp2_with fail
    (with_reducible refine (rranks_any n _ HLE.out (ranks_of c2)).mono ?_); rintro e w5 ⟨dv, d, rfl, hdx, h, d1, d2⟩
    have HE : Hid (c = d) := rank_eq c1 c2 d1 d2
    have HDX : Hid (IsAt w5 dv c) := Lib.hid (by rw [HE.out]; exact hdx)
    have HCX := Lib.hid (HCX.out.below h); have HX := Lib.hid (HX.out.below h); have HY := Lib.hid (HY.out.below h); have HOE := Lib.hid (HOE.out.below h); have HLE := Lib.hid (HLE.out.below h); have BX := Lib.hid (BX.out.trans (h.mono BX.out.size)); clear hdx h c1 c2 d1 d2 HE
    go_wp2_with fail
    (with_reducible refine (tied_any n a _ HOE.out).mono ?_); rintro e w6 ⟨b1, rfl, h, t1, t2⟩
    have HDX := Lib.hid (HDX.out.below h); have HCX := Lib.hid (HCX.out.below h); have HX := Lib.hid (HX.out.below h); have HY := Lib.hid (HY.out.below h); have HOE := Lib.hid (HOE.out.below h); have HLE := Lib.hid (HLE.out.below h); have BX := Lib.hid (BX.out.trans (h.mono BX.out.size)); clear h
    go_wp2_with fail
    (with_reducible refine (rtied_any n a _ HLE.out).mono ?_); rintro e w7 ⟨b2, rfl, h, s1, s2⟩
    obtain rfl : b1 = b2 := tied_eq t1 t2 s1 s2
    have HDX := Lib.hid (HDX.out.below h); have HCX := Lib.hid (HCX.out.below h); have HX := Lib.hid (HX.out.below h); have HY := Lib.hid (HY.out.below h); have HOE := Lib.hid (HOE.out.below h); have HLE := Lib.hid (HLE.out.below h); have BX := Lib.hid (BX.out.trans (h.mono BX.out.size)); clear h t1 t2 s1 s2
    obtain ⟨q1, hq1⟩ : ∃ q, chkI n l = q := ⟨_, rfl⟩
    obtain ⟨q2, hq2⟩ : ∃ q, tieI n l a = q := ⟨_, rfl⟩
    rw [hq2]
    clear hq2
    simp only [hq1]
    clear hq1
    go_wp2_with fail
    go_loopw [20] (fun i wr => ∃ k : Nat, k ≤ l.length ∧ i = .int .i64 k ∧ Below w7.heap.size w7 wr) (fun i _ => l.length - (intOf i).toNat)
    case atStart => exact ⟨0, Nat.zero_le _, rfl, Below.refl _ _⟩
    case round =>
      obtain ⟨k, hk, rfl, hb⟩ := hrel
      have HB := Lib.hid hb; clear hb
      by_cases hlt : k < l.length
      · have HLT := Lib.hid hlt
        obtain ⟨p, hp⟩ : ∃ p, l[k]? = some p := ⟨_, List.getElem?_eq_getElem hlt⟩
        obtain ⟨gx, ox, rfl, hgx, p0, p1⟩ := HLE.out.get hp
        obtain ⟨gy, oy, rfl, hgy, s0, s1⟩ := HOE.out.get hp
        replace p0 := cell_below HB.out p0
        replace p1 := cell_below HB.out p1
        replace s0 := cell_below HB.out s0
        replace s1 := cell_below HB.out s1
        obtain ⟨px, py⟩ := p
        simp only at p0 p1 s0 s1
        clear hp
        have hrs := run_same px py
        go_wp2_with fail
        go_quiet (fail)
        go_wp2
        go_roundw
        case rel => exact ⟨k + 1, HLT.out, by go_num, (by repeat (first | exact HB.out | (with_reducible refine below_drewN ?_ _) | (with_reducible refine Below.drew ?_)))⟩
        case measure => have := HLT.out; simp [intOf]; omega
      · obtain rfl : k = l.length := by omega
        have HX := Lib.hid (HX.out.below HB.out); have HY := Lib.hid (HY.out.below HB.out)
        go_wp2_with fail
        (with_reducible refine (same_same' _ HX.out HY.out).mono ?_); rintro e w8 ⟨rfl, h8⟩
        have HB8 := Lib.hid (HB.out.trans (h8.mono HB.out.size)); clear h8
        go_wp2_with fail
        (with_reducible refine (same_same' _ (HCX.out.below HB8.out) (HDX.out.below HB8.out)).mono ?_); rintro e w9 ⟨rfl, h9⟩
        have HB9 := Lib.hid (HB8.out.trans (h9.mono HB8.out.size)); clear h9
        cases b1
        all_goals
          go_wp2
          go_ret
          exact ⟨rfl, BX.out.trans (HB9.out.mono BX.out.size)⟩

/-! ### THE ROW's STEP -/
theorem own : ownKnob Try.prog.godebug = none := by kernel_rfl

theorem laidOut : laidOutB Try.prog = true := by kernel_rfl

set_option maxRecDepth 100000 in
theorem lifted (os : Os) (started : os.Started) (H : Type) (enc : TypeId × Value → H) :
    ReturnsInHanded {} Try.checked os 6 .any (Rows.knotTellsSpec.pre6 enc Try.prog Try.f6 Rows.knotTellsRow.domain false) (Rows.knotTellsSpec.post enc Try.prog Try.f6 false true false false) := by
  refine returnsInHanded_of_change (C := Try.checked) own started (by kernel_rfl) Try.func6
    (ChangeSpec.witness6 (enc := enc) (C := Try.checked) false ⟨#[], #[.int .i64 0, .slice none 0 0, .int .i64 0], []⟩ 8 (by kernel_rfl) (by kernel_rfl) (by kernel_rfl) (by kernel_rfl)) ?_
  intro W base args ds gs before hval0 hW hcnd _
  have hval : ∀ (j : Nat) t v, Try.f6.params[j]? = some t → args[j]? = some v → Value.okWide Try.prog W .any base t v := hval0
  have hW' := hW
  obtain ⟨p, q, hA0, hV, rfl, hfz, hnd⟩ := hW
  have hA : DataW.TrodAll enc Try.prog W 0 (fun _ => true) true Try.f6.params.toList args.toList ds p := hA0
  rw [Try.params6] at hA hval
  obtain ⟨v0, vs0, d0, ds0, p0, q0, hargs, rfl, rfl, h0, r0⟩ := trodAll_cons hA
  obtain ⟨v1, vs1, d1, ds1, p1, q1, rfl, rfl, rfl, h1, r1⟩ := trodAll_cons r0
  obtain ⟨v2, vs2, d2, ds2, p2, q2, rfl, rfl, rfl, h2, r2⟩ := trodAll_cons r1
  obtain ⟨rfl, rfl, rfl⟩ := trodAll_nil r2
  obtain rfl : args = #[v0, v1, v2] := by cases args; simp_all
  obtain ⟨rfl, rfl⟩ := trodVars_none hV
  obtain ⟨a0, rfl, rfl, rfl, w0⟩ := open_int Try.underlying3 (hval 0 3 v0 rfl rfl) h0
  obtain ⟨l1, hl1⟩ := open_edges (hval 1 22 v1 rfl rfl) h1
  obtain ⟨a2, rfl, rfl, rfl, w2⟩ := open_int Try.underlying3 (hval 2 3 v2 rfl rfl) h2
  refine (core a0 a2 W hl1).mono fun e W' ⟨he, hg⟩ => ?_
  subst he
  exact ⟨_, rfl, law_post laidOut (by
    intro t ht
    simp only [Try.params6, List.mem_cons, List.not_mem_nil, or_false] at ht
    rcases ht with rfl | rfl | rfl <;> exact ⟨by kernel_rfl, of_decide_eq_true (by kernel_rfl)⟩) rfl rfl Try.underlying4 rfl hW' hg⟩

theorem over : Rows.knotTellsRow.holds Try.pinned (OpenSpec.ofChange Rows.knotTellsSpec) :=
  OpenClaim.holds_of_wide 6 Try.f6 rfl rfl rfl rfl rfl rfl rfl ⟨rfl, rfl, rfl, rfl, rfl⟩ rfl rfl rfl rfl rfl (by kernel_rfl) Try.func6 (by kernel_rfl)
    (of_decide_eq_true (by kernel_rfl)) (by unfold Func.isWrapper; first | (rw [if_pos (by decide +kernel)]; kernel_rfl) | (rw [if_neg (by decide +kernel)]; exact ⟨rfl, rfl⟩))
    (fun os started H enc _ => lifted os started H enc)

theorem proved : Rows.KnotTellsSaid :=
  over
#print axioms proved

end Go.Proofs.Ytkmbjpgpkgeiaaa.knotTells
