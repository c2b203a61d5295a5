/- The walk of the law FnChain. No condition. -/
import Derived.Test.YtomojiipgabhfaaDrwCh
import Derived.Test.YtomojiipgabhfaaLChnP
import Derived.Test.YtomojiipgabhfaaChn
namespace Go.Proofs.Ytomojiipgabhfaa
open Go.RowKit
set_option linter.unusedVariables false

set_option maxHeartbeats 400000 in
theorem sameI_yes (A C : Option Addr) (c d : Nat) (zs : List Int) (w : World) (h : RD .i64 w w.heap.size A zs) (h' : RD .i64 w w.heap.size C zs) (hl : zs.length ≤ 1048576) :
    Calls Try.prog 24 #[.slice A zs.length c, .slice C zs.length d] w fun e w' => e = .returned (.bool true) ∧ Below w.heap.size w w' := by
  go_enter Try.func24, Try.ntmps24
  go_wp2
  go_loopw [5] (fun i wr => ∃ k : Nat, k ≤ zs.length ∧ i = .int .i64 k ∧ ∃ n, wr = w.drewN n) (fun i _ => zs.length - (intOf i).toNat)
  case atStart => exact ⟨0, Nat.zero_le _, rfl, 0, rfl⟩
  case round =>
    obtain ⟨k, hk, rfl, n, rfl⟩ := hrel
    by_cases hlt : k < zs.length
    · obtain ⟨b, off, rfl, hbb, hc⟩ := h.at_ (i := k) hlt
      obtain ⟨b', off', rfl, hbb', hc'⟩ := h'.at_ (i := k) hlt
      go_wp2
      go_quiet (fail)
      go_wp2
      go_roundw
      case rel => exact ⟨k + 1, by omega, by go_num, _, rfl⟩
      case measure => simp [intOf] <;> omega
    · have HE := Lib.hid (show k = zs.length by omega)
      go_wp2
      go_ret
      exact ⟨rfl, below_drewN (Below.refl _ _) n⟩
theorem bth {a b c : World} (h : Below a.heap.size a b) (k : Below b.heap.size b c) : Below a.heap.size a c := h.trans (k.mono h.size)
theorem IR.til {w w' : World} {B : Nat} {A : Option Addr} {c : Nat} {zs : List Int} (h : IR w B A c zs) (hb : Below w.heap.size w w') : IR w' B A c zs := h.below hb (Nat.le_refl _)

set_option maxHeartbeats 4000000 in
theorem walkFnChain (a0 : Option Addr) (len cap : Nat) (zs : List Int) (w : World) (hs : Sl .u8 w a0 len cap zs) :
    Calls Try.prog 7 #[.slice a0 len cap] w fun e w' => e = .returned (.bool true) ∧ Below w.heap.size w w' := by
  have HS := Lib.hid hs
  obtain ⟨-, hlc, hcm, -, -⟩ := hs
  unfold maxLen at hcm
  by_cases hbig : len ≤ 1048576
  case neg =>
    have hbig' : decide (1048576 < len) = true := by simp; omega
    go_enter Try.func7, Try.ntmps7
    go_wp2_with fail
    go_ret
    exact ⟨rfl, Below.refl _ _⟩
  go_enter Try.func7, Try.ntmps7
  go_wp2_with fail
  refine (drawChainOf_any a0 len cap zs _ HS.out).mono ?_
  rintro e w1 ⟨a, b, ⟨a1, a2, b1, b2⟩, rfl, hb1⟩
  by_cases h : 0 ≤ a ∧ a ≤ 1000000000 ∧ 0 ≤ b ∧ b ≤ 1000000000 ∧ (0 < a ∨ 0 < b)
  · obtain ⟨h1, h2, h3, h4, h5⟩ := h
    have H5 := Lib.hid h5
    obtain ⟨q1, q2, q3⟩ := gc_bd (b.toNat + 1) a b 1000000000 h1 h3 (by omega) h2 h4
    have q4 := q3 h5
    have hl := qs_len60 a b h3 (by omega)
    have HCB := Lib.hid (cbR_qs a b h1 h2 h3 h4 q4)
    have HLA := Lib.hid (qs_last2 a b h1 h3)
    have HTW := Lib.hid (qs_twice (b.toNat + 1) a b h1 h3 (by omega))
    have H5' := Lib.hid (show 0 < 2 * a ∨ 0 < 2 * b by omega)
    have hl2 : (qs a b).length ≤ 1048576 := by omega
    clear h5 q3
    go_wp2_with fail
    refine (iChainOf_yes a b _ h1 h2 h3 h4 H5.out).mono ?_
    rintro e w2 ⟨A2, c2, rfl, o2, hb2⟩
    have T2 := bth hb1 hb2
    go_wp2_with fail
    refine (sChainOf_loop a b _ h1 h2 h3 h4 H5.out).mono ?_
    rintro e w3 ⟨A3, c3, rfl, o3, hb3⟩
    have T3 := bth T2 hb3
    have o23 := o2.til hb3
    go_wp2_with fail
    refine (sameI_yes A2 A3 c2 c3 (qs a b) _ o23.rd o3.rd hl2).mono ?_
    rintro e w4 ⟨rfl, hb4⟩
    have T4 := bth T3 hb4
    have o24 := o23.til hb4
    go_wp2_with fail
    refine (iChainCommon_yes a b _ h1 h2 h3 h4 H5.out).mono ?_
    rintro e w5 ⟨rfl, hb5⟩
    have T5 := bth T4 hb5
    have o25 := o24.til hb5
    go_wp2_with fail
    refine (iChainBack_any A2 c2 (qs a b) _ o25.rd hl2).mono ?_
    rintro e w' ⟨rfl, rfl⟩
    obtain ⟨tv, htv⟩ : ∃ tv, triV (cbR (qs a b)) = tv := ⟨_, rfl⟩
    obtain ⟨x, y, z, hxyz⟩ : ∃ x y z, cbR (qs a b) = (x, y, z) := ⟨_, _, _, rfl⟩
    have HV := Lib.hid (show triV (cbR (qs a b)) = .tuple #[.int .i64 x, .int .i64 y, .bool z] by rw [hxyz]; rfl)
    have HXY := Lib.hid (show (qs a b).length ≤ 20 → x = a / gc a b ∧ y = b / gc a b ∧ z = true by
      intro hle
      have := HCB.out hle
      rw [hxyz] at this
      injection this with e1 e2
      injection e2 with e2 e3
      exact ⟨e1, e2, e3⟩)
    clear htv hxyz HCB
    rw [HV.out]
    obtain ⟨l, hL⟩ : ∃ l, qs a b = l := ⟨_, rfl⟩
    obtain ⟨k, hK⟩ : ∃ k, gc a b = k := ⟨_, rfl⟩
    rw [hL] at o25 hl hl2 HTW HLA HXY
    rw [hK] at q1 q2 q4 HXY
    rw [hL, hK]
    clear o2 o3 o23 o24 HV hL hK
    have d1 := Int.ediv_nonneg h1 (show 0 ≤ k by omega)
    have d2 : a / k ≤ a := Int.ediv_le_self _ h1
    have d3 := Int.ediv_nonneg h3 (show 0 ≤ k by omega)
    have d4 : b / k ≤ b := Int.ediv_le_self _ h3
    have hk0 : ¬ k = 0 := by omega
    -- the last region, whatever came of the second chain
    have HFIN : ∀ (W : World), Below w.heap.size w W → True := fun _ _ => trivial
    clear HFIN
    by_cases htw : 2 * a ≤ 1000000000 ∧ 2 * b ≤ 1000000000
    · obtain ⟨tw1, tw2⟩ := htw
      go_wp2_with fail
      refine (iChainOf_yes (2 * a) (2 * b) _ (by omega) tw1 (by omega) tw2 H5'.out).mono ?_
      rintro e w6 ⟨A6, c6, rfl, o6, hb6⟩
      rw [HTW.out] at o6 ⊢
      have T6 := bth T5 hb6
      have o26 := o25.til hb6
      go_wp2_with fail
      refine (sameI_yes A6 A2 c6 c2 l _ o6.rd o26.rd hl2).mono ?_
      rintro e w7 ⟨rfl, hb7⟩
      have T7 := bth T6 hb7
      have o27 := o26.til hb7
      by_cases hn1 : 1 < l.length
      · have hla := HLA.out hn1
        obtain ⟨b', off', rfl, hbb', hc'⟩ := o27.rd.at_ (i := l.length - 1) (by omega)
        obtain ⟨j, hj⟩ : ∃ j, l.length - 1 = j := ⟨_, rfl⟩
        rw [hj] at hc' hla
        have hjl : j < l.length := by omega
        have HJ := Lib.hid (show (l.length : Int) - 1 = (j : Int) by omega)
        have hji : (j : Int) < l.length := by omega
        have hjq : (l.length : Int) - 1 = (j : Int) := HJ.out
        clear hj
        by_cases hn2 : 20 < l.length
        · go_wp2_with fail
          go_ret
          exact ⟨rfl, T7⟩
        · obtain ⟨rfl, rfl, rfl⟩ := HXY.out (by omega)
          go_wp2_with fail
          go_ret
          exact ⟨rfl, T7⟩
      · obtain ⟨rfl, rfl, rfl⟩ := HXY.out (by omega)
        have hn1' : ¬ (1 : Int) < l.length := by omega
        go_wp2_with fail
        go_ret
        exact ⟨rfl, T7⟩
    · have HNO := Lib.hid (show ¬ (0 ≤ 2 * a ∧ 2 * a ≤ 1000000000 ∧ 0 ≤ 2 * b ∧ 2 * b ≤ 1000000000 ∧ (0 < 2 * a ∨ 0 < 2 * b)) by omega)
      clear htw
      go_wp2_with fail
      refine (iChainOf_no (2 * a) (2 * b) _ HNO.out).mono ?_
      rintro e w6 ⟨A6, c6, rfl, o6, hb6⟩
      have T6 := bth T5 hb6
      have o26 := o25.til hb6
      by_cases hn1 : 1 < l.length
      · have hla := HLA.out hn1
        obtain ⟨b', off', rfl, hbb', hc'⟩ := o26.rd.at_ (i := l.length - 1) (by omega)
        obtain ⟨j, hj⟩ : ∃ j, l.length - 1 = j := ⟨_, rfl⟩
        rw [hj] at hc' hla
        have hjl : j < l.length := by omega
        have hji : (j : Int) < l.length := by omega
        have hjq : (l.length : Int) - 1 = (j : Int) := by omega
        clear hj
        by_cases hn2 : 20 < l.length
        · go_wp2_with fail
          go_ret
          exact ⟨rfl, T6⟩
        · obtain ⟨rfl, rfl, rfl⟩ := HXY.out (by omega)
          go_wp2_with fail
          go_ret
          exact ⟨rfl, T6⟩
      · obtain ⟨rfl, rfl, rfl⟩ := HXY.out (by omega)
        have hn1' : ¬ (1 : Int) < l.length := by omega
        go_wp2_with fail
        go_ret
        exact ⟨rfl, T6⟩
  · have H := Lib.hid h
    clear h
    go_wp2_with fail
    refine (iChainOf_no a b _ H.out).mono ?_
    rintro e w2 ⟨A2, c2, rfl, o2, hb2⟩
    have T2 := bth hb1 hb2
    go_wp2_with fail
    refine (sChainOf_no a b _ H.out).mono ?_
    rintro e w3 ⟨A3, c3, rfl, o3, hb3⟩
    have T3 := bth T2 hb3
    have o23 := o2.til hb3
    have hcl := sameI_yes A2 A3 c2 c3 []
    have HCL := Lib.hid hcl
    clear hcl
    go_wp2_with fail
    refine (HCL.out _ o23.rd o3.rd (by simp)).mono ?_
    rintro e w4 ⟨rfl, hb4⟩
    have T4 := bth T3 hb4
    have o24 := o23.til hb4
    have o34 := o3.til hb4
    go_wp2_with fail
    refine (HCL.out _ o24.rd o34.rd (by simp)).mono ?_
    rintro e w5 ⟨rfl, hb5⟩
    go_wp2_with fail
    go_ret
    exact ⟨rfl, bth T4 hb5⟩

end Go.Proofs.Ytomojiipgabhfaa
