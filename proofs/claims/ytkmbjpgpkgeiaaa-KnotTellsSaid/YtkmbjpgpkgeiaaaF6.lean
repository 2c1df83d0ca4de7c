/- The contract of the document's Ranks. -/
import Derived.Test.YtkmbjpgpkgeiaaaRows
import Derived.WalkKit
import Derived.ProofKit
import Derived.OpenShut
import Derived.Below
import Derived.Outline
import Derived.LoopTactic
import Derived.Lib.Hide
import Derived.WalkSpells
import Derived.RegionTactic
import Derived.BigRegion
import Derived.Deep.QuietTactic
import Derived.BigQuiet
import Derived.Deep.RegionWith
import Derived.Test.YtkmbjpgpkgeiaaaF4
namespace Go.Proofs.Ytkmbjpgpkgeiaaa
open Go.ChangeShapes Go.WideShapes Go.ChangeAt Go.RowKit
set_option linter.unusedVariables false

theorem heads_fn {tq : Nat → List Nat} {n : Nat} {x : List Int} (h : HeadL tq n x) : ∃ hd : Nat → Nat, ∀ a, a < n → x[a]? = some ((hd a : Nat) : Int) ∧ IsHead tq a (hd a) :=
  ⟨fun a => (x.getD a 0).toNat, fun a ha => by
    obtain ⟨m, h1, h2⟩ := h.2 a ha
    have e : (x.getD a 0).toNat = m := by rw [List.getD_eq_getElem?_getD, h1]; simp
    simp only [e]
    exact ⟨h1, h2⟩⟩
set_option maxHeartbeats 1000000 in
theorem rranks_any {l : List (Int × Int)} {v : Value} (n : Int) (w : World) (hl : EsAt w v l) (hR : ∀ N : Nat, n = (N : Int) → chkI n l = 0 → ∃ R, IsRanks (toL (toN l)) N R ∧ ∀ a, a < N → R a ≤ N) : Calls Try.prog 16 #[.int .i64 n, v] w (RanksP n l w) := by
  have HL := Lib.hid hl; clear hl
  by_cases hc : chkI n l = 0
  · obtain ⟨N, rfl, hN, hLn, hmap, hpts⟩ := chk_ok hc
    obtain ⟨R, hr1, hr2⟩ := hR N rfl hc
    clear hR
    have HR1 := Lib.hid hr1; clear hr1
    have HR2 := Lib.hid hr2; clear hr2
    have HC := Lib.hid hc
    have HLL : Hid (EsAt w v ((toN l).map castP)) := Lib.hid (by rw [hmap]; exact HL.out)
    have HPT := Lib.hid hpts; clear hpts hmap
    go_enter Try.func16, Try.ntmps16
    go_wp2_with fail
    (with_reducible refine (rheads_any _ _ HL.out).mono ?_); rintro e w2 ⟨hv, x, rfl, hx, h2, hn, hh⟩
    have HX := Lib.hid hx
    have H2 := Lib.hid h2
    have HH := Lib.hid (hh N rfl hc)
    have hxl : x.length = N := (hh N rfl hc).1
    have HXL := Lib.hid hxl; clear hxl
    clear hx h2 hn hh
    rw [hc]
    go_wp2_with fail
    obtain ⟨hd, hhd⟩ := heads_fn HH.out
    (with_reducible refine (ranked_any N _ (HLL.out.below H2.out) HX.out HXL.out hhd HR1.out HR2.out hN hLn HPT.out).mono ?_); rintro e w3 ⟨rv, rfl, hrv, h3⟩
    have HRV := Lib.hid hrv
    have H3 := Lib.hid (H2.out.trans (h3.mono H2.out.size))
    clear hrv h3 hhd
    go_wp2
    refine bodyPost_ret (v := .tuple #[rv, .int .i64 0]) (by simp [results, Try.results16, go_sem, *]) rfl ?_
    exact ⟨rv, rkL N R, by rw [HC.out], HRV.out, H3.out, fun h => absurd HC.out h, fun M hM _ => by
      obtain rfl : N = M := by omega
      exact ⟨rk_len _ _, R, HR1.out, fun a ha => rk_get _ ha, HR2.out⟩⟩
  · have HC := Lib.hid hc
    clear hR
    go_enter Try.func16, Try.ntmps16
    go_wp2_with fail
    (with_reducible refine (rheads_any _ _ HL.out).mono ?_); rintro e w2 ⟨hv, x, rfl, hx, h2, hn, hh⟩
    have H2 := Lib.hid h2
    clear hx h2 hn hh
    obtain ⟨c, hcc⟩ : ∃ c, chkI n l = c := ⟨_, rfl⟩
    have HCC := Lib.hid hcc
    rw [hcc] at hc ⊢
    have hne1 : (c != 0) = true := by simpa using hc
    have hne2 : (c == 0) = false := by simpa using hc
    clear hcc
    go_wp2
    refine bodyPost_ret (v := .tuple #[.slice none 0 0, .int .i64 c]) (by simp [results, Try.results16, go_sem, *]) rfl ?_
    exact ⟨.slice none 0 0, [], by rw [HCC.out], is_nil _, H2.out, fun _ => rfl, fun _ _ h => absurd h HC.out⟩

end Go.Proofs.Ytkmbjpgpkgeiaaa
