/- The walk of the law FnRootOdd. No condition. -/
import Derived.Test.YtcekgegheffobaaDrwRt
import Derived.Test.YtcekgegheffobaaOdd
namespace Go.Proofs.Ytcekgegheffobaa
open Go.RowKit
set_option linter.unusedVariables false

theorem isRt_sq {n r : Int} (h : IsRt n r) : IsRt (r * r) r := ⟨h.1, h.2.1, Int.le_refl _, by rw [sq_succ]; have := h.1; omega⟩

set_option maxHeartbeats 1000000 in
theorem walkFnRootOdd (a : Option Addr) (len cap : Nat) (zs : List Int) (w : World) (hs : Sl .u8 w a len cap zs) :
    Calls Try.prog 8 #[.slice a len cap] w fun e w' => e = .returned (.bool true) ∧ Below w.heap.size w w' := by
  have HS := Lib.hid hs
  obtain ⟨-, hlc, hcm, -, -⟩ := hs
  unfold maxLen at hcm
  by_cases hbig : len ≤ 1048576
  · go_enter Try.func8, Try.ntmps8
    go_wp2_with fail
    refine (drawRootOdd_any a len cap zs _ HS.out).mono ?_
    rintro e w1 ⟨n, ⟨n0, n1⟩, rfl, hb1⟩
    by_cases h : 0 ≤ n ∧ n ≤ 1000000000
    · obtain ⟨h1, h2⟩ := h
      go_wp2_with fail
      refine (iRootOdd_yes n _ h1 h2).mono ?_
      rintro e w' ⟨r, hr, rfl, rfl⟩
      go_wp2_with fail
      refine (sRootOdd_yes n _ h1 h2).mono ?_
      rintro e w' ⟨s, hs, rfl, rfl⟩
      obtain rfl := isRt_uniq hr hs
      have hsq := isRt_sq hr
      have HR := Lib.hid hr
      obtain ⟨r0, r1, r2, -⟩ := hr
      have b0 := sq_nn r
      have HQ := Lib.hid hsq
      clear hsq hs
      go_wp2_with fail
      rw [show n - (n - r * r) = r * r by omega]
      refine (iRootOdd_yes (r * r) _ (by omega) (by omega)).mono ?_
      rintro e w' ⟨s, hs, rfl, rfl⟩
      obtain rfl := isRt_uniq HQ.out hs
      clear hs
      have t1 : (r * r + (n - r * r) == n) = true := beq_iff_eq.2 (by omega)
      have t2 : (r * r - r * r == 0) = true := beq_iff_eq.2 (by omega)
      go_wp2_with fail
      go_ret
      exact ⟨rfl, hb1⟩
    · have h' : n < 0 ∨ 1000000000 < n := by omega
      have H := Lib.hid h'
      clear h h'
      go_wp2_with fail
      refine (iRootOdd_no n _ H.out).mono ?_
      rintro e w' ⟨rfl, rfl⟩
      go_wp2_with fail
      refine (sRootOdd_no n _ H.out).mono ?_
      rintro e w' ⟨rfl, rfl⟩
      go_wp2_with fail
      go_ret
      exact ⟨rfl, hb1⟩
  · have hbig' : decide (1048576 < len) = true := by simp; omega
    go_enter Try.func8, Try.ntmps8
    go_wp2_with fail
    go_ret
    exact ⟨rfl, Below.refl _ _⟩

end Go.Proofs.Ytcekgegheffobaa
