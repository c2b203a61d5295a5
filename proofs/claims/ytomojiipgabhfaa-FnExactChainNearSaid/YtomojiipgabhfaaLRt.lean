/- The walks of the laws FnRoot, FnCube and FnExactChainNear and of their draws. No condition. -/
import Derived.Test.YtomojiipgabhfaaDrwRt
import Derived.Test.YtomojiipgabhfaaDigW
import Derived.Test.YtomojiipgabhfaaCube
import Derived.Test.YtomojiipgabhfaaBack
import Derived.Test.YtomojiipgabhfaaChn
namespace Go.Proofs.Ytomojiipgabhfaa
open Go.RowKit
set_option linter.unusedVariables false

theorem drawRootOf_any (A : Option Addr) (len cap : Nat) (zs : List Int) (w : World) (hs : Sl .u8 w A len cap zs) :
    Calls Try.prog 14 #[.slice A len cap] w (DrewInt (fun v => -1 ≤ v ∧ v ≤ 2000000000) w) := by
  have HS := Lib.hid hs
  clear hs
  go_enter Try.func14, Try.ntmps14
  go_wp2_with fail
  refine (l6Open_any A len cap zs _ HS.out).mono ?_
  rintro e w1 ⟨g, rfl, hr1, hb1⟩
  go_wp2_with fail
  refine (l92Root_any _ g 0 _ hr1 (by omega) (by omega)).mono ?_
  rintro e w2 ⟨v, p', hv, -, -, rfl, hr2, hg2⟩
  go_wp2_with fail
  go_ret
  exact ⟨v, hv, rfl, below_of_grown hb1 hr1 hg2⟩
set_option maxHeartbeats 400000 in
theorem drawCubeOf_any (A : Option Addr) (len cap : Nat) (zs : List Int) (w : World) (hs : Sl .u8 w A len cap zs) :
    Calls Try.prog 8 #[.slice A len cap] w (DrewInt (fun v => -1 ≤ v ∧ v ≤ 2000000000) w) := by
  have HS := Lib.hid hs
  clear hs
  go_enter Try.func8, Try.ntmps8
  go_wp2_with fail
  refine (l6Open_any A len cap zs _ HS.out).mono ?_
  rintro e w1 ⟨g, rfl, hr1, hb1⟩
  go_wp2_with fail
  refine (pick_any _ g 0 3 _ hr1 (by omega) (by omega) (by omega) (by omega)).mono ?_
  rintro e w2 ⟨v, v0, v1, rfl, hr2, hg2⟩
  have hb2 := below_of_grown hb1 hr1 hg2
  by_cases c0 : v = 0
  · subst c0
    go_wp2_with fail
    refine (pick_any _ g (0 + 1) 100 _ hr2 (by omega) (by omega) (by omega) (by omega)).mono ?_
    rintro e w3 ⟨x, x0, x1, rfl, hr3, hg3⟩
    have hq := sq_le (a := x) (b := 100) x0 (by omega)
    have hc := cube_le (a := x) (b := 100) x0 (by omega)
    have hq0 := sq_nn x
    have hc0 := Int.mul_nonneg hq0 x0
    go_wp2_with fail
    refine (pick_any _ g (0 + 1 + 1) 3 _ hr3 (by omega) (by omega) (by omega) (by omega)).mono ?_
    rintro e w4 ⟨y, y0, y1, rfl, hr4, hg4⟩
    go_wp2_with fail
    go_ret
    exact ⟨x * x * x + y - 1, by omega, rfl, below_of_grown (below_of_grown hb2 hr2 hg3) hr3 hg4⟩
  · have c0' : (v == 0) = false := beq_eq_false_iff_ne.2 c0
    clear c0
    go_wp2_with fail
    refine (l92Root_any _ g (0 + 1) _ hr2 (by omega) (by omega)).mono ?_
    rintro e w3 ⟨x, p', hv, -, -, rfl, hr3, hg3⟩
    go_wp2_with fail
    go_ret
    exact ⟨x, hv, rfl, below_of_grown hb2 hr2 hg3⟩
theorem rt_rest {n r : Int} (h : IsRt n r) : r * r + (n - r * r) = n ∧ 0 ≤ n - r * r ∧ n - r * r ≤ 2 * r := by
  obtain ⟨h0, _, h1, h2⟩ := h
  rw [sq_succ] at h2
  omega
set_option maxHeartbeats 1000000 in
theorem walkFnRoot (a : Option Addr) (len cap : Nat) (zs : List Int) (w : World) (hs : Sl .u8 w a len cap zs) :
    Calls Try.prog 5 #[.slice a len cap] w fun e w' => e = .returned (.bool true) ∧ Below w.heap.size w w' := by
  have HS := Lib.hid hs
  obtain ⟨-, hlc, hcm, -, -⟩ := hs
  unfold maxLen at hcm
  by_cases hbig : len ≤ 1048576
  case neg =>
    have hbig' : decide (1048576 < len) = true := by simp; omega
    go_enter Try.func5, Try.ntmps5
    go_wp2_with fail
    go_ret
    exact ⟨rfl, Below.refl _ _⟩
  go_enter Try.func5, Try.ntmps5
  go_wp2_with fail
  refine (drawRootOf_any a len cap zs _ HS.out).mono ?_
  rintro e w1 ⟨n, ⟨n0, n1⟩, rfl, hb1⟩
  by_cases h : 0 ≤ n ∧ n ≤ 1000000000
  · obtain ⟨h1, h2⟩ := h
    go_wp2_with fail
    refine (iRootOf_yes n _ h1 h2).mono ?_
    rintro e w2 ⟨r, hr, rfl, hb2⟩
    have hb := hb1.trans (hb2.mono hb1.size)
    go_wp2_with fail
    refine (sRootOf_yes n _ h1 h2).mono ?_
    rintro e w' ⟨s, hs, rfl, rfl⟩
    obtain rfl := isRt_uniq hr hs
    have HR := Lib.hid hr
    obtain ⟨r0, r1, r2, -⟩ := hr
    have b0 := sq_nn r
    clear hs
    go_wp2_with fail
    refine (iRootOdd_yes n _ h1 h2).mono ?_
    rintro e w' ⟨s, hs, rfl, rfl⟩
    obtain rfl := isRt_uniq HR.out hs
    clear hs
    obtain ⟨e1, e2, e3⟩ := rt_rest HR.out
    have t1 : (r * r + (n - r * r) == n) = true := beq_iff_eq.2 e1
    clear e1
    go_wp2_with fail
    go_ret
    exact ⟨rfl, hb⟩
  · have h' : n < 0 ∨ 1000000000 < n := by omega
    have H := Lib.hid h'
    clear h h'
    go_wp2_with fail
    refine (iRootOf_no n _ H.out).mono ?_
    rintro e w' ⟨rfl, rfl⟩
    go_wp2_with fail
    refine (sRootOf_no n _ H.out).mono ?_
    rintro e w' ⟨rfl, rfl⟩
    go_wp2_with fail
    go_ret
    exact ⟨rfl, hb1⟩
theorem cub_self {n c : Int} (h : IsCub n c) : IsCub (c * c * c) c := by
  obtain ⟨h0, h1, h2, h3⟩ := h
  refine ⟨h0, h1, Int.le_refl _, ?_⟩
  have := cube_le (a := c) (b := c + 1) h0 (by omega)
  rcases Int.lt_or_eq_of_le this with h | h
  · exact h
  · exfalso
    have e : (c + 1) * (c + 1) * (c + 1) = c * c * c + (3 * (c * c) + 3 * c + 1) := by
      rw [sq_succ, Int.add_mul, Int.mul_add]
      have : (2 * c + 1) * (c + 1) = 2 * (c * c) + 3 * c + 1 := by rw [Int.add_mul, Int.mul_add, Int.mul_assoc]; omega
      rw [this]; omega
    have := sq_nn c
    omega
theorem cub_le_rt {n c r : Int} (h : IsCub n c) (k : IsRt n r) : c ≤ r := by
  obtain ⟨h0, h1, h2, h3⟩ := h
  obtain ⟨k0, k1, k2, k3⟩ := k
  rcases Int.lt_or_le r c with hlt | hge
  · exfalso
    have h4 := sq_le (a := r + 1) (b := c) (by omega) (by omega)
    have h5 : c * c ≤ c * c * c := by
      have := Int.mul_le_mul_of_nonneg_left (show 1 ≤ c by omega) (sq_nn c)
      omega
    omega
  · exact hge
set_option maxHeartbeats 1000000 in
theorem walkFnCube (a : Option Addr) (len cap : Nat) (zs : List Int) (w : World) (hs : Sl .u8 w a len cap zs) :
    Calls Try.prog 3 #[.slice a len cap] w fun e w' => e = .returned (.bool true) ∧ Below w.heap.size w w' := by
  have HS := Lib.hid hs
  obtain ⟨-, hlc, hcm, -, -⟩ := hs
  unfold maxLen at hcm
  by_cases hbig : len ≤ 1048576
  case neg =>
    have hbig' : decide (1048576 < len) = true := by simp; omega
    go_enter Try.func3, Try.ntmps3
    go_wp2_with fail
    go_ret
    exact ⟨rfl, Below.refl _ _⟩
  go_enter Try.func3, Try.ntmps3
  go_wp2_with fail
  refine (drawCubeOf_any a len cap zs _ HS.out).mono ?_
  rintro e w1 ⟨n, ⟨n0, n1⟩, rfl, hb1⟩
  by_cases h : 0 ≤ n ∧ n ≤ 1000000000
  · obtain ⟨h1, h2⟩ := h
    go_wp2_with fail
    refine (iCubeOf_yes n _ h1 h2).mono ?_
    rintro e w' ⟨c, hc, rfl, rfl⟩
    go_wp2_with fail
    refine (sCubeOf_yes n _ h1 h2).mono ?_
    rintro e w' ⟨s, hs, rfl, rfl⟩
    obtain rfl := isCub_uniq hc hs
    have HC := Lib.hid hc
    have HS2 := Lib.hid (cub_self hc)
    obtain ⟨c0, c1, c2, c3⟩ := hc
    have q0 := sq_nn c
    have q1 := sq_le (a := c) (b := 1000) c0 c1
    have q2 := Int.mul_nonneg q0 c0
    have p0 := sq_nn (c + 1)
    have p1 := sq_le (a := c + 1) (b := 1001) (by omega) (by omega)
    have p2 := cube_le (a := c + 1) (b := 1001) (by omega) (by omega)
    have p3 := Int.mul_nonneg p0 (show 0 ≤ c + 1 by omega)
    clear hs
    go_wp2_with fail
    refine (iRootOf_yes n _ h1 h2).mono ?_
    rintro e w2 ⟨r, hr, rfl, hb2⟩
    have hb := hb1.trans (hb2.mono hb1.size)
    have hcr := cub_le_rt HC.out hr
    obtain ⟨r0, r1, r2, -⟩ := hr
    go_wp2_with fail
    refine (iCubeOf_yes (c * c * c) _ q2 (by omega)).mono ?_
    rintro e w' ⟨s, hs, rfl, rfl⟩
    obtain rfl := isCub_uniq HS2.out hs
    clear hs
    go_wp2_with fail
    go_ret
    exact ⟨rfl, hb⟩
  · have h' : n < 0 ∨ 1000000000 < n := by omega
    have H := Lib.hid h'
    clear h h'
    go_wp2_with fail
    refine (iCubeOf_no n _ H.out).mono ?_
    rintro e w' ⟨rfl, rfl⟩
    go_wp2_with fail
    refine (sCubeOf_no n _ H.out).mono ?_
    rintro e w' ⟨rfl, rfl⟩
    go_wp2_with fail
    go_ret
    exact ⟨rfl, hb1⟩
theorem RD.take {k : IntKind} {w : World} {B : Nat} {A : Option Addr} {zs : List Int} (h : RD k w B A zs) (n : Nat) : RD k w B A (zs.take n) := fun hn => by
  rw [List.length_take] at hn
  obtain ⟨b, off, e, hb, hc⟩ := h (by omega)
  refine ⟨b, off, e, hb, fun i hi => ?_⟩
  rw [List.length_take] at hi
  rw [hc i (by omega)]
  simp [ix, List.getD_eq_getElem?_getD, show i < n by omega]
def nearV (a b : Int) (k : Int) : Value := if (0 ≤ a ∧ a ≤ 1000000000 ∧ 0 ≤ b ∧ b ≤ 1000000000 ∧ (0 < a ∨ 0 < b)) ∧ 0 ≤ k ∧ k ≤ (qs a b).length then triV (cbR ((qs a b).take k.toNat)) else .tuple #[.int .i64 0, .int .i64 0, .bool false]
theorem triV_form (r : Int × Int × Bool) : triV r = .tuple #[.int .i64 r.1, .int .i64 r.2.1, .bool r.2.2] := rfl
set_option maxHeartbeats 400000 in
theorem iChainNear_any (a b k : Int) (w : World) :
    Calls Try.prog 13 #[.int .i64 a, .int .i64 b, .int .i64 k] w fun e w' => e = .returned (nearV a b k) ∧ Below w.heap.size w w' := by
  by_cases h : 0 ≤ a ∧ a ≤ 1000000000 ∧ 0 ≤ b ∧ b ≤ 1000000000 ∧ (0 < a ∨ 0 < b)
  · obtain ⟨h1, h2, h3, h4, h5⟩ := h
    have H5 := Lib.hid h5
    have hl := qs_len60 a b h3 (by omega)
    by_cases hk : 0 ≤ k ∧ k ≤ (qs a b).length
    · have HE := Lib.hid (show nearV a b k = triV (cbR ((qs a b).take k.toNat)) from if_pos ⟨⟨h1, h2, h3, h4, h5⟩, hk⟩)
      obtain ⟨n, rfl⟩ := Int.eq_ofNat_of_zero_le hk.1
      have hn : n ≤ (qs a b).length := by omega
      have hkl := hk.2
      clear h5 hk
      go_enter Try.func13, Try.ntmps13
      go_wp2_with fail
      refine (iChainOf_yes a b _ h1 h2 h3 h4 H5.out).mono ?_
      rintro e w1 ⟨A, c, rfl, hi, hb⟩
      have hcap := hi.len.1
      have hcap2 : (n : Int) ≤ c := by omega
      have HT := Lib.hid (show ((qs a b).take n).length = n by rw [List.length_take]; omega)
      have hrd := hi.rd.take n
      have hcl := iChainBack_any A c ((qs a b).take n) w1 hrd (by rw [HT.out]; omega)
      rw [HT.out] at hcl
      have HCL := Lib.hid hcl
      clear hcl
      go_wp2_with fail
      refine HCL.out.mono ?_
      rintro e w' ⟨rfl, rfl⟩
      rw [triV_form]
      go_wp2_with fail
      go_ret3
      exact ⟨by rw [HE.out, Int.toNat_natCast]; rfl, hb⟩
    · have HE := Lib.hid (show nearV a b k = .tuple #[.int .i64 0, .int .i64 0, .bool false] from if_neg (fun h => hk h.2))
      have hk' : k < 0 ∨ ((qs a b).length : Int) < k := by omega
      clear h5 hk
      rcases hk' with hk | hk
      · go_enter Try.func13, Try.ntmps13
        go_wp2_with fail
        refine (iChainOf_yes a b _ h1 h2 h3 h4 H5.out).mono ?_
        rintro e w1 ⟨A, c, rfl, hi, hb⟩
        go_wp2_with fail
        go_ret3
        exact ⟨by rw [HE.out]; rfl, hb⟩
      · have hk2 : ¬ k < 0 := by omega
        go_enter Try.func13, Try.ntmps13
        go_wp2_with fail
        refine (iChainOf_yes a b _ h1 h2 h3 h4 H5.out).mono ?_
        rintro e w1 ⟨A, c, rfl, hi, hb⟩
        go_wp2_with fail
        go_ret3
        exact ⟨by rw [HE.out]; rfl, hb⟩
  · have HE := Lib.hid (show nearV a b k = .tuple #[.int .i64 0, .int .i64 0, .bool false] from if_neg (fun h' => h h'.1))
    have H := Lib.hid h
    clear h
    go_enter Try.func13, Try.ntmps13
    go_wp2_with fail
    refine (iChainOf_no a b _ H.out).mono ?_
    rintro e w1 ⟨A, c, rfl, hi, hb⟩
    go_wp2_with fail
    go_ret3
    exact ⟨by rw [HE.out]; rfl, hb⟩
set_option maxHeartbeats 400000 in
theorem sChainNear_any (a b k : Int) (w : World) :
    Calls Try.prog 12 #[.int .i64 a, .int .i64 b, .int .i64 k] w fun e w' => e = .returned (nearV a b k) ∧ Below w.heap.size w w' := by
  by_cases h : 0 ≤ a ∧ a ≤ 1000000000 ∧ 0 ≤ b ∧ b ≤ 1000000000 ∧ (0 < a ∨ 0 < b)
  · obtain ⟨h1, h2, h3, h4, h5⟩ := h
    have H5 := Lib.hid h5
    have hl := qs_len60 a b h3 (by omega)
    by_cases hk : 0 ≤ k ∧ k ≤ (qs a b).length
    · have HE := Lib.hid (show nearV a b k = triV (cbR ((qs a b).take k.toNat)) from if_pos ⟨⟨h1, h2, h3, h4, h5⟩, hk⟩)
      obtain ⟨n, rfl⟩ := Int.eq_ofNat_of_zero_le hk.1
      have hn : n ≤ (qs a b).length := by omega
      have hk1 := hk.1
      have hkl := hk.2
      clear h5 hk
      go_enter Try.func12, Try.ntmps12
      go_wp2_with fail
      refine (sChainOf_loop a b _ h1 h2 h3 h4 H5.out).mono ?_
      rintro e w1 ⟨A, c, rfl, hi, hb⟩
      have hcap := hi.len.1
      have hcap2 : (n : Int) ≤ c := by omega
      have HT := Lib.hid (show ((qs a b).take n).length = n by rw [List.length_take]; omega)
      have hrd := hi.rd.take n
      have hcl := sChainBack_any A c ((qs a b).take n) w1 hrd (by rw [HT.out]; omega)
      rw [HT.out] at hcl
      have HCL := Lib.hid hcl
      clear hcl
      go_wp2_with fail
      refine (l6In_yes _ _ _ _ hk1 hkl).mono ?_
      rintro e w' ⟨rfl, rfl⟩
      go_wp2_with fail
      refine HCL.out.mono ?_
      rintro e w' ⟨rfl, rfl⟩
      rw [triV_form]
      go_wp2_with fail
      go_ret3
      exact ⟨by rw [HE.out, Int.toNat_natCast]; rfl, hb⟩
    · have HE := Lib.hid (show nearV a b k = .tuple #[.int .i64 0, .int .i64 0, .bool false] from if_neg (fun h => hk h.2))
      have hk' : k < 0 ∨ ((qs a b).length : Int) < k := by omega
      have HK := Lib.hid hk'
      clear h5 hk hk'
      go_enter Try.func12, Try.ntmps12
      go_wp2_with fail
      refine (sChainOf_loop a b _ h1 h2 h3 h4 H5.out).mono ?_
      rintro e w1 ⟨A, c, rfl, hi, hb⟩
      go_wp2_with fail
      refine (l6In_no _ _ _ _ HK.out).mono ?_
      rintro e w' ⟨rfl, rfl⟩
      go_wp2_with fail
      go_ret3
      exact ⟨by rw [HE.out]; rfl, hb⟩
  · have HE := Lib.hid (show nearV a b k = .tuple #[.int .i64 0, .int .i64 0, .bool false] from if_neg (fun h' => h h'.1))
    have H := Lib.hid h
    clear h
    go_enter Try.func12, Try.ntmps12
    go_wp2_with fail
    refine (sChainOf_no a b _ H.out).mono ?_
    rintro e w1 ⟨A, c, rfl, hi, hb⟩
    go_wp2_with fail
    go_ret3
    exact ⟨by rw [HE.out]; rfl, hb⟩
theorem nearV_form (a b k : Int) : ∃ x y z, nearV a b k = .tuple #[.int .i64 x, .int .i64 y, .bool z] := by
  unfold nearV
  split
  · exact ⟨_, _, _, rfl⟩
  · exact ⟨_, _, _, rfl⟩
set_option maxHeartbeats 400000 in
theorem walkFnExactChainNear (a0 : Int) (w0 : (Lit.int .i64 a0).wf = true) (a1 : Int) (w1 : (Lit.int .i64 a1).wf = true) (a2 : Int) (w2 : (Lit.int .i64 a2).wf = true) (w : World) :
    Calls Try.prog 4 #[.int .i64 a0, .int .i64 a1, .int .i64 a2] w fun e w' => e = .returned (.bool true) ∧ Below w.heap.size w w' := by
  obtain ⟨x, y, z, hv⟩ := nearV_form a0 a1 a2
  have HV := Lib.hid hv
  clear hv w0 w1 w2
  go_enter Try.func4, Try.ntmps4
  go_wp2_with fail
  refine (sChainNear_any a0 a1 a2 _).mono ?_
  rintro e w1 ⟨rfl, hb1⟩
  rw [HV.out]
  go_wp2_with fail
  refine (iChainNear_any a0 a1 a2 _).mono ?_
  rintro e w2 ⟨rfl, hb2⟩
  rw [HV.out]
  go_wp2_with fail
  go_ret
  exact ⟨rfl, hb1.trans (hb2.mono hb1.size)⟩

end Go.Proofs.Ytomojiipgabhfaa
