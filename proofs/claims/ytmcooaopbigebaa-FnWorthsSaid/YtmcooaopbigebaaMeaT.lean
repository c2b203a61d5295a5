/- The walks of the reference's functions on amounts. No condition but bounds on lengths. -/
import Derived.Test.YtmcooaopbigebaaMeaS
import Derived.Deep.RegionHeld3
namespace Go.Proofs.Ytmcooaopbigebaa
open Go.RowKit
set_option linter.unusedVariables false

/-- the reference's empty list. -/
theorem retIB_mt {w w1 : World} {rs : List Int} {n : Int} (hn : n < 0) (hb : Below w.heap.size w w1) : RetIB w (aoZ rs n) (aoB rs n) (.returned (.tuple #[.slice (some ⟨w1.heap.size, 0, none⟩) 0 0, .bool false])) (w1.alloc (.cells #[] 3)) := by
  rw [aoZ_no (aoB_bad (.inl hn)), aoB_bad (.inl hn)]
  exact ⟨_, _, rfl, (ir_mt w1).from_ hb, below_then hb (below_new _ _)⟩
/-- the reference's two empty lists. -/
theorem retIIB_mt {w w1 : World} {rs : List Int} {x n : Int} (hn : ¬ (0 ≤ x ∧ 1 ≤ n ∧ n ≤ 100000)) (hb : Below w.heap.size w w1) : RetIIB w (shZ rs x n (x / n)) (shZ rs x n (x % n)) (shB x n) (.returned (.tuple #[.slice (some ⟨w1.heap.size, 0, none⟩) 0 0, .slice (some ⟨w1.heap.size + 1, 0, none⟩) 0 0, .bool false])) ((w1.alloc (.cells #[] 3)).alloc (.cells #[] 3)) := by
  rw [shZ_no (shB_no hn), shZ_no (shB_no hn), shB_no hn]
  have h1 := (ir_mt w1).from_ hb
  have h2 := ir_mt (w1.alloc (.cells #[] 3))
  refine ⟨_, _, _, _, rfl, h1.alloc _, ?_, ?_, below_then (below_then hb (below_new _ _)) (below_new _ _)⟩
  · simpa using h2.from_ (below_then hb (below_new _ _))
  · intro g h h'
    simp at h h'
    omega
theorem RD.cell {k : IntKind} {w : World} {B b off i : Nat} {zs : List Int} (h : RD k w B (some ⟨b, off, none⟩) zs) (hi : i < zs.length) : w.cell? ⟨b, off + i, none⟩ = some (.int k (ix zs i)) := by
  obtain ⟨b', off', e, _, hc⟩ := h (by omega)
  injection e with e
  injection e with e1 e2
  subst e1 e2
  exact hc i hi
theorem emod_le {m v : Int} (h0 : 0 ≤ m) (hv : 1 ≤ v) : m % v ≤ m := by
  have q1 := Int.mul_ediv_add_emod m v
  have q2 := Int.mul_nonneg (show 0 ≤ v by omega) (Int.ediv_nonneg h0 (show 0 ≤ v by omega))
  omega
theorem sAmountValid_any (A C : Option Addr) (c d : Nat) (rs ns : List Int) (w : World) (hA : RD .i64 w w.heap.size A rs) (hl : rs.length ≤ 1048576) (hC : RD .i64 w w.heap.size C ns) (hl2 : ns.length ≤ 1048576) :
    Calls Try.prog 28 #[.agg #[.slice A rs.length c], .slice C ns.length d] w fun e w' => e = .returned (.bool (nng (lst rs ns))) ∧ Below w.heap.size w w' := by
  obtain ⟨x, hx⟩ : ∃ x, lst rs ns = x := ⟨_, rfl⟩
  rw [hx]
  have HX := Lib.hid hx
  clear hx
  go_enter Try.func28, Try.ntmps28
  go_wp2_with fail
  refine (l7Least_any A C c d rs ns _ (hA.new _) hl (hC.new _) hl2).mono ?_
  rintro e w1 ⟨rfl, hb1⟩
  rw [HX.out]
  by_cases hx : 0 ≤ x
  · go_wp2_with fail
    go_ret
    exact ⟨by rw [nng_yes hx]; first | rfl | (exact ret_bool (by simp [hx])), below_then (below_new _ _) hb1⟩
  · go_wp2_with fail
    go_ret
    exact ⟨by rw [nng_no (by omega)]; first | rfl | (exact ret_bool (by simp; omega)), below_then (below_new _ _) hb1⟩
theorem sAmountLeast_any (A C : Option Addr) (c d : Nat) (rs ns : List Int) (w : World) (hA : RD .i64 w w.heap.size A rs) (hl : rs.length ≤ 1048576) (hC : RD .i64 w w.heap.size C ns) (hl2 : ns.length ≤ 1048576) :
    Calls Try.prog 33 #[.agg #[.slice A rs.length c], .slice C ns.length d] w fun e w' => e = .returned (.int .i64 (lst rs ns)) ∧ Below w.heap.size w w' := by
  go_enter Try.func33, Try.ntmps33
  go_wp2_with fail
  refine (l7Least_any A C c d rs ns _ (hA.new _) hl (hC.new _) hl2).mono ?_
  rintro e w1 ⟨rfl, hb1⟩
  go_wp2_with fail
  go_ret
  exact ⟨rfl, below_then (below_new _ _) hb1⟩
set_option maxHeartbeats 1000000 in
theorem sAmountOf_any (A : Option Addr) (c : Nat) (rs : List Int) (n : Int) (w : World) (hA : RD .i64 w w.heap.size A rs) (hl : rs.length ≤ 1048576) :
    Calls Try.prog 31 #[.agg #[.slice A rs.length c], .int .i64 n] w (RetIB w (aoZ rs n) (aoB rs n)) := by
  have hbw := below_new w (.cells #[.slice A rs.length c] 27)
  have hbv := below_then hbw (below_new _ (.cells #[] 3))
  have hE : IR ((w.alloc (.cells #[.slice A rs.length c] 27)).alloc (.cells #[] 3)) w.heap.size (some ⟨w.heap.size + 1, 0, none⟩) 0 [] := by
    have := ir_mt (w.alloc (.cells #[.slice A rs.length c] 27))
    simpa using this.from_ hbw
  cases hv : vldR rs with
  | false =>
    have HV := Lib.hid (mw_no hv)
    have HB := Lib.hid (aoB_inv (n := n) hv)
    clear hv
    go_enter Try.func31, Try.ntmps31
    go_wp2_with fail
    refine (sMeasureWorths_any A c rs _ (hA.to hbv) hl).mono ?_
    rintro e w1 ⟨A1, c1, rfl, hi1, hb1⟩
    rw [HV.out]
    go_wp2_with fail
    go_ret2
    rw [aoZ_no HB.out, HB.out]
    exact ⟨_, _, rfl, hE.to hb1, below_then hbv hb1⟩
  | true =>
    have HV := Lib.hid (mw_yes hv)
    have HW := Lib.hid (wor_ixs hv)
    have hl4 := (vldR_iff.1 hv).1
    have HWL := Lib.hid (wor_len rs)
    have hw1 : (((wor rs).length : Int) == 0) = false := by rw [HWL.out]; exact beq_eq_false_iff_ne.2 (by omega)
    by_cases hn : 0 ≤ n ∧ n ≤ 1000000000
    · obtain ⟨n0, n1⟩ := hn
      have HB := Lib.hid (aoB_yes hv n0 n1)
      clear hv
      have hl5 : (wor rs).length ≤ 5 := by rw [HWL.out]; omega
      have HN := Lib.hid (prp_len (wor rs) n)
      go_enter Try.func31, Try.ntmps31
      go_wp2_with fail
      refine (sMeasureWorths_any A c rs _ (hA.to hbv) hl).mono ?_
      rintro e w1 ⟨A1, c1, rfl, hi1, hb1⟩
      rw [HV.out] at hi1 ⊢
      have hbb := below_then hbv hb1
      have hE1 := hE.to hb1
      have hsp := hi1.span
      have hW' := hi1.rd
      have hs1 := hb1.size
      simp at hs1
      go_wp2_with (go_at_call 46; refine (l6In_yes _ _ _ _ n0 n1).mono ?_; rintro e w' ⟨rfl, rfl⟩)
      clear hw1
      go_loopw [1, 6, 8] (fun x v i wr => ∃ (k : Nat) (m : Int) (done : List Int) (A' : Option Addr) (c' : Nat), k ≤ (wor rs).length ∧ Hid (done.length = k) ∧ 0 ≤ m ∧ m ≤ 1000000000 ∧ i = .int .i64 k ∧ x = .int .i64 m ∧ v = .slice A' done.length c' ∧ IR wr w.heap.size A' c' done ∧ Outs A' (w.heap.size + 2) w1.heap.size ∧ RD .i64 wr w1.heap.size A1 (wor rs) ∧ w1.heap.size ≤ wr.heap.size ∧ Below w.heap.size w wr ∧ Hid (done ++ prp ((wor rs).drop k) m = prp (wor rs) n)) (fun _ _ i _ => (wor rs).length - (intOf i).toNat)
      case atStart => exact ⟨0, n, [], _, _, Nat.zero_le _, rfl, n0, n1, rfl, rfl, rfl, hE1, by intro g hg; simp at hg; left; omega, hW', Nat.le_refl _, hbb, rfl⟩
      case round =>
        obtain ⟨k, m, done, A', c', hk, HD, m0, m1, rfl, rfl, rfl, hown, hout, hrd, hsz, hb, HP⟩ := hrel
        have hdl : done.length ≤ 5 := by rw [HD.out]; omega
        by_cases hlt : k < (wor rs).length
        · have hne : ∀ g, A1.map (·.block) = some g → A'.map (·.block) ≠ some g := fun g e e' => by
            have h1 := hsp g e
            simp at h1
            have h2 := hout g e'
            omega
          obtain ⟨b, off, rfl, hbb1, hc⟩ := hrd.at_ hlt
          have hbd := HW.out k hlt
          have HQ := Lib.hid HP.out
          rw [drop_cons (wor rs) k hlt, prp] at HQ
          have HC : ∀ W, RD .i64 W w1.heap.size (some ⟨b, off, none⟩) (wor rs) → W.cell? ⟨b, off + k, none⟩ = some (.int .i64 (ix (wor rs) k)) := fun W hW => hW.cell hlt
          have HCC := Lib.hid HC
          clear HC HP
          generalize ix (wor rs) k = v at *
          have e1 := Int.emod_nonneg m (show v ≠ 0 by omega)
          have e2 := Int.emod_lt_of_pos m (show 0 < v by omega)
          have e3 := emod_le m0 hbd.1
          have HRG := Lib.hid (fun w2 (hg2 : wr.grownBy w2 (A'.map (·.block))) => RD.grown hrd hsz hg2 hne)
          clear hne hsp
          go_wp2_with (at_builtin; refine wpList_push rfl _ _ rfl w.heap.size A' c' done _ rfl rfl hown _ rfl (by simp) (by omega) hb.size ?_; intro A2 c2 w2 hown2 hg2 hb2 hout2; have hrd2 := HRG.out w2 hg2; have hc2 := HCC.out w2 hrd2; have hout3 := hout2 _ _ hsz hout)
          go_roundw
          case rel => exact ⟨k + 1, m % v, done ++ [m / v], A2, c2, by omega, by show _ = _; simp [HD.out], e1, by omega, by go_num, rfl, by simp, hown2, hout3, hrd2, Nat.le_trans hsz hg2.size, hb.trans hb2, by show _ = _; rw [← HQ.out]; simp⟩
          case measure => simp [intOf] <;> omega
        · have HE : Hid (done = prp (wor rs) n) := by
            show _ = _
            rw [← HP.out, List.drop_of_length_le (by omega)]; simp [prp]
          go_wp2_with fail
          go_ret2
          rw [aoZ_yes HB.out, HB.out, ← HE.out]
          exact ⟨A', c', rfl, hown, hb⟩
    · have HB := Lib.hid (aoB_bad (rs := rs) (n := n) (by omega))
      have hn' : n < 0 ∨ 1000000000 < n := by omega
      have HN := Lib.hid hn'
      clear hv hn hn'
      go_enter Try.func31, Try.ntmps31
      go_wp2_with fail
      refine (sMeasureWorths_any A c rs _ (hA.to hbv) hl).mono ?_
      rintro e w1 ⟨A1, c1, rfl, hi1, hb1⟩
      rw [HV.out]
      go_wp2_with (go_at_call 46; refine (l6In_no _ _ _ _ HN.out).mono ?_; rintro e w' ⟨rfl, rfl⟩)
      go_ret2
      rw [aoZ_no HB.out, HB.out]
      exact ⟨_, _, rfl, hE.to hb1, below_then hbv hb1⟩
theorem sAmountProper_any (A C : Option Addr) (c d : Nat) (rs ns : List Int) (w : World) (hA : RD .i64 w w.heap.size A rs) (hl : rs.length ≤ 1048576) (hC : RD .i64 w w.heap.size C ns) (hl2 : ns.length ≤ 1048576) :
    Calls Try.prog 40 #[.agg #[.slice A rs.length c], .slice C ns.length d] w (RetIB w (aoZ rs (lst rs ns)) (aoB rs (lst rs ns))) := by
  have hbw := below_new w (.cells #[.slice A rs.length c] 27)
  have hbd : Below w.heap.size w (w.alloc (.cells #[.slice A rs.length c] 27)).drew := hbw.drew
  have hA1 := hA.to hbd
  have hC1 := hC.to hbd
  have hc0 : (w.alloc (.cells #[.slice A rs.length c] 27)).drew.cell? ⟨w.heap.size, 0, none⟩ = some (.slice A rs.length c) := box_cell w _ _
  go_enter Try.func40, Try.ntmps40
  go_wp2_with fail
  go_region_held3 (fun w' => w'.cell? ⟨w.heap.size, 0, none⟩ = some (.slice A rs.length c)) (first | assumption | go_keep) (first | (go_at_call 50; refine (l7Least_any A C c d rs ns _ ?_ hl ?_ hl2).mono ?_; exact hA1; exact hC1; rintro e w1 ⟨rfl, hb1⟩; have hbb := below_then hbd hb1; have hc1 := (hb1.cell (p := ⟨w.heap.size, 0, none⟩) (by simp)).trans hc0) | (go_at_call 31; refine (sAmountOf_any A c rs _ _ ?_ hl).mono ?_; exact hA.to hbb; rintro e w2 ⟨A2, c2, rfl, hi2, hb2⟩; have hc2 := (hb2.cell (p := ⟨w.heap.size, 0, none⟩) (show w.heap.size < w1.heap.size by have := hb1.size; simp at this; omega)).trans hc1))
  go_wp2_with fail
  go_ret2
  exact ⟨A2, c2, rfl, hi2.from_ hbb, below_then hbb hb2⟩
theorem l7Two_any (A C D : Option Addr) (c d d2 : Nat) (rs ns ms : List Int) (w : World) (hA : RD .i64 w w.heap.size A rs) (hl : rs.length ≤ 1048576) (hC : RD .i64 w w.heap.size C ns) (hl2 : ns.length ≤ 1048576) (hD : RD .i64 w w.heap.size D ms) (hl3 : ms.length ≤ 1048576) :
    Calls Try.prog 54 #[.agg #[.slice A rs.length c], .slice C ns.length d, .slice D ms.length d2] w fun e w' => e = .returned (.tuple #[.int .i64 (lst rs ns), .int .i64 (lst rs ms), .bool (nng (lst rs ns) && nng (lst rs ms))]) ∧ Below w.heap.size w w' := by
  have hbw := below_new w (.cells #[.slice A rs.length c] 27)
  obtain ⟨x, hx⟩ : ∃ x, lst rs ns = x := ⟨_, rfl⟩
  obtain ⟨y, hy⟩ : ∃ y, lst rs ms = y := ⟨_, rfl⟩
  rw [hx, hy]
  have HX := Lib.hid hx
  have HY := Lib.hid hy
  clear hx hy
  go_enter Try.func54, Try.ntmps54
  go_wp2_with fail
  refine (l7Least_any A C c d rs ns _ (hA.new _) hl (hC.new _) hl2).mono ?_
  rintro e w1 ⟨rfl, hb1⟩
  have hbb := below_then hbw hb1
  have hc1 := box_keep hb1
  rw [HX.out]
  go_wp2_with fail
  refine (l7Least_any A D c d2 rs ms _ (hA.to hbb) hl (hD.to hbb) hl3).mono ?_
  rintro e w2 ⟨rfl, hb2⟩
  have hbc := below_then hbb hb2
  rw [HY.out]
  by_cases hx : 0 ≤ x
  · by_cases hy : 0 ≤ y
    · go_wp2_with fail
      go_ret3
      exact ⟨by rw [nng_yes hx, nng_yes hy]; first | rfl | simp [hx, hy], hbc⟩
    · go_wp2_with fail
      go_ret3
      exact ⟨by rw [nng_yes hx, nng_no (show y < 0 by omega)]; first | rfl | simp [hy], hbc⟩
  · go_wp2_with fail
    go_ret3
    exact ⟨by rw [nng_no (show x < 0 by omega)]; first | rfl | simp [hx], hbc⟩
theorem sAmountOrder_any (A C D : Option Addr) (c d d2 : Nat) (rs ns ms : List Int) (w : World) (hA : RD .i64 w w.heap.size A rs) (hl : rs.length ≤ 1048576) (hC : RD .i64 w w.heap.size C ns) (hl2 : ns.length ≤ 1048576) (hD : RD .i64 w w.heap.size D ms) (hl3 : ms.length ≤ 1048576) :
    Calls Try.prog 36 #[.agg #[.slice A rs.length c], .slice C ns.length d, .slice D ms.length d2] w fun e w' => e = .returned (.tuple #[.int .i64 (ordN (lst rs ns) (lst rs ms)), .bool (nng (lst rs ns) && nng (lst rs ms))]) ∧ Below w.heap.size w w' := by
  have hbw := below_new w (.cells #[.slice A rs.length c] 27)
  obtain ⟨x, hx⟩ : ∃ x, lst rs ns = x := ⟨_, rfl⟩
  obtain ⟨y, hy⟩ : ∃ y, lst rs ms = y := ⟨_, rfl⟩
  rw [hx, hy]
  have HX := Lib.hid hx
  have HY := Lib.hid hy
  clear hx hy
  go_enter Try.func36, Try.ntmps36
  go_wp2_with fail
  refine (l7Two_any A C D c d d2 rs ns ms _ (hA.new _) hl (hC.new _) hl2 (hD.new _) hl3).mono ?_
  rintro e w1 ⟨rfl, hb1⟩
  have hbb := below_then hbw hb1
  rw [HX.out, HY.out]
  by_cases hx : 0 ≤ x
  · by_cases hy : 0 ≤ y
    · rw [nng_yes hx, nng_yes hy]
      by_cases h1 : x < y
      · go_wp2_with fail
        go_ret2
        exact ⟨by rw [ordN_lt hx hy h1, nng_yes hx, nng_yes hy]; rfl, hbb⟩
      · by_cases h2 : y < x
        · go_wp2_with fail
          go_ret2
          exact ⟨by rw [ordN_gt hx hy h2, nng_yes hx, nng_yes hy]; rfl, hbb⟩
        · go_wp2_with fail
          go_ret2
          exact ⟨by rw [ordN_eq hx hy (by omega) (by omega), nng_yes hx, nng_yes hy]; rfl, hbb⟩
    · rw [nng_no (show y < 0 by omega), Bool.and_false]
      go_wp2_with fail
      go_ret2
      exact ⟨by rw [ordN_no (by omega), nng_no (show y < 0 by omega), Bool.and_false]; rfl, hbb⟩
  · rw [nng_no (show x < 0 by omega), Bool.false_and]
    go_wp2_with fail
    go_ret2
    exact ⟨by rw [ordN_no (by omega), nng_no (show x < 0 by omega), Bool.false_and]; rfl, hbb⟩
set_option maxHeartbeats 400000 in
theorem sAmountTimes_any (A C : Option Addr) (c d : Nat) (rs ns : List Int) (n : Int) (w : World) (hA : RD .i64 w w.heap.size A rs) (hl : rs.length ≤ 1048576) (hC : RD .i64 w w.heap.size C ns) (hl2 : ns.length ≤ 1048576) :
    Calls Try.prog 41 #[.agg #[.slice A rs.length c], .slice C ns.length d, .int .i64 n] w (RetIB w (aoZ rs (timesN (lst rs ns) n)) (aoB rs (timesN (lst rs ns) n))) := by
  have hbw := below_new w (.cells #[.slice A rs.length c] 27)
  have hb1 := lst_bd rs ns
  obtain ⟨x, hx⟩ : ∃ x, lst rs ns = x := ⟨_, rfl⟩
  rw [hx]
  rw [hx] at hb1
  have HX := Lib.hid hx
  clear hx
  go_enter Try.func41, Try.ntmps41
  go_wp2_with fail
  refine (l7Least_any A C c d rs ns _ (hA.new _) hl (hC.new _) hl2).mono ?_
  rintro e w1 ⟨rfl, hb1⟩
  have hbb := below_then hbw hb1
  have hc1 := box_keep hb1
  rw [HX.out]
  by_cases hx : 0 ≤ x
  · by_cases hn : 0 ≤ n ∧ n ≤ 100000
    · obtain ⟨n0, n1⟩ := hn
      have HE := Lib.hid (show timesN x n = x * n from if_pos ⟨hx, n0, n1⟩)
      have hm1 := Int.mul_le_mul (show x ≤ 1000000000 by omega) n1 n0 (by decide)
      have hm0 := Int.mul_nonneg hx n0
      have hm2 : x * n ≤ 100000000000000 := hm1
      clear hm1
      go_wp2_with (go_at_call 46; refine (l6In_yes _ _ _ _ n0 n1).mono ?_; rintro e w' ⟨rfl, rfl⟩)
      refine (sAmountOf_any A c rs _ _ (hA.to hbb) hl).mono ?_
      rintro e w2 ⟨A2, c2, rfl, hi2, hb2⟩
      go_wp2_with fail
      go_ret2
      rw [HE.out]
      exact ⟨A2, c2, rfl, hi2.from_ hbb, below_then hbb hb2⟩
    · have HE := Lib.hid (show timesN x n = -1 from if_neg (by omega))
      have hn' : n < 0 ∨ 100000 < n := by omega
      have HN := Lib.hid hn'
      clear hn hn'
      go_wp2_with (go_at_call 46; refine (l6In_no _ _ _ _ HN.out).mono ?_; rintro e w' ⟨rfl, rfl⟩)
      go_ret2
      rw [HE.out]
      exact retIB_mt (by omega) hbb
  · have HE := Lib.hid (show timesN x n = -1 from if_neg (by omega))
    go_wp2_with fail
    go_ret2
    rw [HE.out]
    exact retIB_mt (by omega) hbb
set_option maxHeartbeats 1000000 in
theorem sAmountConvert_any (A C D : Option Addr) (c d c2 : Nat) (rs ns ts : List Int) (a b : Int) (w : World) (hA : RD .i64 w w.heap.size A rs) (hl : rs.length ≤ 1048576) (hC : RD .i64 w w.heap.size C ns) (hl2 : ns.length ≤ 1048576) (hD : RD .i64 w w.heap.size D ts) (hl3 : ts.length ≤ 1048576) :
    Calls Try.prog 43 #[.agg #[.slice A rs.length c], .slice C ns.length d, .agg #[.slice D ts.length c2], .int .i64 a, .int .i64 b] w (RetIB w (aoZ ts (convN (vldR ts) (lst rs ns) a b)) (aoB ts (convN (vldR ts) (lst rs ns) a b))) := by
  have hb1 := lst_bd rs ns
  obtain ⟨x, hx⟩ : ∃ x, lst rs ns = x := ⟨_, rfl⟩
  rw [hx]
  rw [hx] at hb1
  have HX := Lib.hid hx
  clear hx
  have hb0 := below_then (below_new w (.cells #[.slice A rs.length c] 27)) (below_new _ (.cells #[.slice D ts.length c2] 27))
  go_enter Try.func43, Try.ntmps43
  go_wp2_with fail
  refine (l7Least_any A C c d rs ns _ (hA.to hb0) hl (hC.to hb0) hl2).mono ?_
  rintro e w1 ⟨rfl, hb1⟩
  have hbb := below_then hb0 hb1
  have hc1 : w1.cell? ⟨w.heap.size + 1, 0, none⟩ = some (.slice D ts.length c2) := (hb1.cell (p := ⟨w.heap.size + 1, 0, none⟩) (by simp)).trans (by simp)
  have hs1 := hb1.size
  have hs2 : w.heap.size + 1 < w1.heap.size := by simp at hs1; omega
  clear hs1
  rw [HX.out]
  by_cases hx : 0 ≤ x
  · have HC2 := Lib.hid (fun w2 (hb2 : Below w1.heap.size w1 w2) => (hb2.cell (p := ⟨w.heap.size + 1, 0, none⟩) hs2).trans hc1)
    by_cases hc : vldR ts = true ∧ 1 ≤ a ∧ a ≤ 1000 ∧ 1 ≤ b ∧ b ≤ 1000
    · have HE := Lib.hid (show convN (vldR ts) x a b = x * b / a from if_pos ⟨hx, hc⟩)
      obtain ⟨hv, a1, a2, b1, b2⟩ := hc
      have HV := Lib.hid hv
      have hm1 := Int.mul_le_mul (show x ≤ 1000000000 by omega) b2 (by omega) (by decide)
      have hm0 := Int.mul_nonneg hx (show 0 ≤ b by omega)
      have hm2 : x * b ≤ 1000000000000 := hm1
      clear hm1 hv
      go_wp2_with fail
      refine (sMeasureValid_any D c2 ts _ (hD.to hbb) hl3).mono ?_
      rintro e w2 ⟨rfl, hb2⟩
      have hbc := below_then hbb hb2
      have hc3 := HC2.out w2 hb2
      rw [HV.out]
      have ha0 : ¬ a = 0 := by omega
      go_wp2_with (go_at_call 46; refine (l6In_yes _ _ _ _ (by omega) (by omega)).mono ?_; rintro e w' ⟨rfl, rfl⟩)
      have hbd := hbc.drew
      have s1 : IntKind.i64.wrap (x * b) = x * b := IntWalk.i64_in _ (by omega)
      have s2 := IntWalk.i64_quo (x * b) a ⟨hm0, by omega, by omega⟩
      have hc4 : w2.drew.cell? ⟨w.heap.size + 1, 0, none⟩ = some (.slice D ts.length c2) := hc3
      go_region_held3 (fun w' => w'.cell? ⟨w.heap.size + 1, 0, none⟩ = some (.slice D ts.length c2)) (first | assumption | go_keep) (first | (go_at_call 31; refine (sAmountOf_any D c2 ts _ _ ?_ hl3).mono ?_; exact hD.to hbd; rintro e w3 ⟨A3, c4, rfl, hi3, hb3⟩; have hc5 := (hb3.cell (p := ⟨w.heap.size + 1, 0, none⟩) (by have := hb2.size; simp; omega)).trans hc4))
      clear s1 s2
      go_wp2_with fail
      go_ret2
      rw [HE.out]
      exact ⟨A3, c4, rfl, hi3.from_ hbd, below_then hbd hb3⟩
    · have HE := Lib.hid (show convN (vldR ts) x a b = -1 from if_neg (fun h => hc h.2))
      cases hv : vldR ts with
      | false =>
        have HV := Lib.hid hv
        clear hv hc
        go_wp2_with fail
        refine (sMeasureValid_any D c2 ts _ (hD.to hbb) hl3).mono ?_
        rintro e w2 ⟨rfl, hb2⟩
        have hbc := below_then hbb hb2
        rw [HV.out]
        go_wp2_with fail
        go_ret2
        rw [HE.out]
        exact retIB_mt (by omega) hbc
      | true =>
        have hc' : ¬ (1 ≤ a ∧ a ≤ 1000 ∧ 1 ≤ b ∧ b ≤ 1000) := fun h => hc ⟨hv, h⟩
        have HV := Lib.hid hv
        clear hv hc
        by_cases h1 : 1 ≤ a ∧ a ≤ 1000
        · have h2 : b < 1 ∨ 1000 < b := by omega
          have H2 := Lib.hid h2
          obtain ⟨h3, h4⟩ := h1
          clear h2 hc'
          go_wp2_with fail
          refine (sMeasureValid_any D c2 ts _ (hD.to hbb) hl3).mono ?_
          rintro e w2 ⟨rfl, hb2⟩
          have hbc := below_then hbb hb2
          rw [HV.out]
          go_wp2_with fail
          refine (l6In_yes _ _ _ _ h3 h4).mono ?_
          rintro e w' ⟨rfl, rfl⟩
          go_wp2_with fail
          refine (l6In_no _ _ _ _ H2.out).mono ?_
          rintro e w' ⟨rfl, rfl⟩
          go_wp2_with fail
          go_ret2
          rw [HE.out]
          exact retIB_mt (by omega) hbc
        · have h2 : a < 1 ∨ 1000 < a := by omega
          have H2 := Lib.hid h2
          clear h1 h2 hc'
          go_wp2_with fail
          refine (sMeasureValid_any D c2 ts _ (hD.to hbb) hl3).mono ?_
          rintro e w2 ⟨rfl, hb2⟩
          have hbc := below_then hbb hb2
          rw [HV.out]
          go_wp2_with fail
          refine (l6In_no _ _ _ _ H2.out).mono ?_
          rintro e w' ⟨rfl, rfl⟩
          go_wp2_with fail
          go_ret2
          rw [HE.out]
          exact retIB_mt (by omega) hbc
  · have HE := Lib.hid (show convN (vldR ts) x a b = -1 from if_neg (by omega))
    go_wp2_with fail
    go_ret2
    rw [HE.out]
    exact retIB_mt (by omega) hbb

end Go.Proofs.Ytmcooaopbigebaa
