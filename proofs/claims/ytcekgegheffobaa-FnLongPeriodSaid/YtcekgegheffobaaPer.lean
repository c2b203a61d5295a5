/- The walks of LongPeriod, the program's and the reference's, and of the law FnExactLongPeriod. No condition. -/
import Derived.Test.YtcekgegheffobaaPerP
import Derived.Test.YtcekgegheffobaaLng
namespace Go.Proofs.Ytcekgegheffobaa
open Go.RowKit
set_option linter.unusedVariables false

def perV (d : Int) : Value := .tuple #[.int .i64 (per d).1, .int .i64 (per d).2, .bool true]
theorem perV_of {d a b : Int} (h : per d = (a, b)) : Ending.returned (.tuple #[.int .i64 a, .int .i64 b, .bool true]) = .returned (perV d) := by rw [perV, h]

theorem iLongPeriod_no (n : Int) (w : World) (h : n < 1 ∨ 1000 < n) :
    Calls Try.prog 20 #[.int .i64 n] w fun e w' => e = .returned (.tuple #[.int .i64 0, .int .i64 0, .bool false]) ∧ w = w' := by
  by_cases h1 : n < 1
  · go_enter Try.func20, Try.ntmps20
    go_wp2_with fail
    go_ret3
    exact ⟨rfl, rfl⟩
  · have h2 : 1000 < n := by omega
    clear h
    go_enter Try.func20, Try.ntmps20
    go_wp2_with fail
    go_ret3
    exact ⟨rfl, rfl⟩
theorem sLongPeriod_no (n : Int) (w : World) (h : n < 1 ∨ 1000 < n) :
    Calls Try.prog 19 #[.int .i64 n] w fun e w' => e = .returned (.tuple #[.int .i64 0, .int .i64 0, .bool false]) ∧ w = w' := by
  have H := Lib.hid h
  clear h
  go_enter Try.func19, Try.ntmps19
  go_wp2_with fail
  refine (l6In_no _ _ _ _ H.out).mono ?_
  rintro e w' ⟨rfl, rfl⟩
  go_wp2_with fail
  go_ret3
  exact ⟨rfl, rfl⟩

theorem step_rest (n r : Int) (W : World) : (Instr.field 47 (.agg #[.int .i64 n, .int .i64 r]) 1).run Try.prog W = .ok (.int .i64 r) W := by kernel_rfl
theorem step_cast (r d : Nat) : ((r : Int) * 10 + 0) % (d : Int) = ((r * 10 % d : Nat) : Int) := by rw [Int.add_zero]; rfl
theorem step_cast2 (r d : Nat) : (r : Int) * 10 % (d : Int) = ((r * 10 % d : Nat) : Int) := rfl
theorem step_cast3 (r d : Nat) : 10 * (r : Int) % (d : Int) = ((r * 10 % d : Nat) : Int) := by rw [Int.mul_comm]; rfl

set_option maxHeartbeats 1000000 in
theorem iLongPeriod_yes (d : Nat) (w : World) (h1 : 1 ≤ d) (h2 : d ≤ 1000) :
    Calls Try.prog 20 #[.int .i64 (d : Int)] w fun e w' => e = .returned (perV d) ∧ Below w.heap.size w w' := by
  have HP := Lib.hid (show per (d : Int) = perF d (d + 1) 0 (((1 % d : Nat)) : Int) (List.replicate d 0) by rw [per, Int.toNat_natCast]; rfl)
  have hmod : (1 : Int) % (d : Int) = ((1 % d : Nat) : Int) := by rfl
  have hlt := Nat.mod_lt 1 (show d > 0 by omega)
  have HM := Lib.hid hmod
  clear hmod
  go_enter Try.func20, Try.ntmps20
  go_wp2_with fail
  rw [HM.out]
  clear HM
  generalize 1 % d = r0 at *
  refine (longDivision_any _ _ _).mono ?_
  rintro e w1 ⟨rfl, hD, hR, hb1, hz1⟩
  go_wp2_with (at_make; refine wpList_mk rfl _ _ rfl _ _ d rfl rfl rfl rfl (by omega) ?_; intro w2 hown2 hb2)
  have hD2 := hD.below hb2 hD.lt
  have hR2 := hR.below hb2 hR.lt
  have hbb := hb1.trans (hb2.mono hb1.size)
  have hz2 := hb2.size
  generalize hg : w1.heap.size = g at *
  clear hg
  go_loopw [5, 8] (fun x y wr => ∃ (r f : Nat) (c : Int) (led : List Int), r < d ∧ 0 ≤ c ∧ c ≤ d ∧ (f : Int) + c ≤ d + 1 ∧ (d : Int) + 1 ≤ f + c ∧ x = .int .i64 (r : Int) ∧ y = .int .i64 c ∧ Hid (LedOk d c led) ∧
    IR wr g (some ⟨g, 0, none⟩) d led ∧ Box wr w.heap.size d ∧ Box wr (w.heap.size + 1) r ∧ Below w.heap.size w wr ∧ Hid (per d = perF d f c r led)) (fun _ y _ => d - (intOf y).toNat)
  case atStart => exact ⟨r0, d + 1, 0, List.replicate d 0, hlt, by omega, by omega, by omega, by omega, rfl, rfl, ledOk_nil d, hown2, hD2, hR2, hbb, HP⟩
  case round =>
    obtain ⟨r, f, c, led, hr, c0, c1, hf1, hf2, rfl, rfl, HL, hown, hD, hR, hb, HI⟩ := hrel
    have hlen : led.length = d := HL.out.len
    obtain ⟨g', e, -, hgl, -, -, hcell, hfro⟩ := hown.form (by omega)
    injection e with e
    injection e with e
    subst e
    have hc := hcell r (by omega)
    have hf := hfro r
    have hall := HL.out.all r hr
    have HSET := Lib.hid (IR.set hown r (c + 1))
    rcases f with _ | f
    · omega
    by_cases hr0 : r = 0
    · subst hr0
      rw [show ((0 : Nat) : Int) = 0 from rfl] at HI ⊢
      clear hcell hfro hown HSET hlen
      go_wp2_with fail
      go_ret3
      exact ⟨perV_of (HI.out.trans perF_zero), hb⟩
    · have hrp : ((r : Int) != 0) = true := by simp; omega
      have hrq : ((r : Int) == 0) = false := by simp; omega
      have HRN : (r : Int) ≠ 0 := by omega
      by_cases hv : ix led r = 0
      · have HGO := Lib.hid (HI.out.trans (perF_go HRN (by rw [Int.toNat_natCast]; exact hv)))
        have HST := Lib.hid (ledOk_step HL.out r hr hv)
        have hroom := ledOk_room HL.out r hr hv
        rw [Int.toNat_natCast] at HGO
        rw [hv] at hc
        clear hcell hfro hown hlen hall hv HI HL HRN
        go_wp2_with fail
        refine (longStep_any (w.heap.size + 1) w.heap.size r d 0 _ ((hR.far (by simp; omega) _)) ((hD.far (by simp; omega) _)) (by omega) (by omega) (by omega) (by omega) (by omega) (by omega) (by omega)).mono ?_
        rintro e w3 ⟨rfl, hR3, hg3⟩
        have HE := Lib.hid (step_cast r d)
        rw [HE.out] at hR3 ⊢
        have HE2 := Lib.hid (step_cast2 r d)
        rw [HE2.out] at HGO
        have hrl := Nat.mod_lt (r * 10) (show d > 0 by omega)
        have hD3 : Box w3 w.heap.size d := Box.grown (hD.far (p := ⟨g, r, none⟩) (by simp; omega) _) hg3 (by simp)
        have ho3 := IR.grown' HSET.out hg3 (fun g2 e2 e3 => by simp at e2 e3; omega)
        have hb3 : Below w.heap.size w w3 := (hb.setCell (p := ⟨g, r, none⟩) (by simp; omega) _).grown hg3 (by simpa [World.setCell] using hb.size) (fun k e => by simp at e; omega)
        generalize r * 10 % d = r' at *
        have hfld := step_rest
        go_wp2_with fail
        go_roundw
        case rel => exact ⟨r', f, c + 1, led.set r (c + 1), hrl, by omega, by omega, by omega, by omega, rfl, rfl, HST, ho3, hD3, hR3, hb3, HGO⟩
        case measure => simp [intOf] <;> omega
      · have HBK := Lib.hid (HI.out.trans (perF_back HRN (by rw [Int.toNat_natCast]; exact hv)))
        rw [Int.toNat_natCast] at HBK
        have hv' : (ix led r == 0) = false := by simp [hv]
        generalize ix led r = v at *
        clear hcell hfro hown hlen HSET HI HL HRN hv
        go_wp2_with fail
        go_ret3
        exact ⟨perV_of HBK.out, hb⟩

set_option maxHeartbeats 1000000 in
theorem sLongPeriod_yes (d : Nat) (w : World) (h1 : 1 ≤ d) (h2 : d ≤ 1000) :
    Calls Try.prog 19 #[.int .i64 (d : Int)] w fun e w' => e = .returned (perV d) ∧ Below w.heap.size w w' := by
  have HP := Lib.hid (show per (d : Int) = perF d (d + 1) 0 (((1 % d : Nat)) : Int) (List.replicate d 0) by rw [per, Int.toNat_natCast]; rfl)
  have hmod : (1 : Int) % (d : Int) = ((1 % d : Nat) : Int) := by rfl
  have hlt := Nat.mod_lt 1 (show d > 0 by omega)
  have HM := Lib.hid hmod
  clear hmod
  go_enter Try.func19, Try.ntmps19
  go_wp2_with fail
  refine (l6In_yes _ _ _ _ (by omega) (by omega)).mono ?_
  rintro e w' ⟨rfl, rfl⟩
  go_wp2_with (at_make; refine wpList_mk rfl _ _ rfl _ _ d rfl rfl rfl rfl (by omega) ?_; intro w2 hown2 hb2)
  rw [HM.out]
  clear HM
  generalize 1 % d = r0 at *
  go_loopw [6, 7] (fun x y wr => ∃ (r f : Nat) (c : Int) (led : List Int), r < d ∧ 0 ≤ c ∧ c ≤ d ∧ (f : Int) + c ≤ d + 1 ∧ (d : Int) + 1 ≤ f + c ∧ x = .int .i64 (r : Int) ∧ y = .int .i64 (c + 1) ∧ Hid (LedOk d c led) ∧
    IR wr w.heap.size (some ⟨w.heap.size, 0, none⟩) d led ∧ Below w.heap.size w wr ∧ Hid (per d = perF d f c r led)) (fun _ y _ => d + 1 - (intOf y).toNat)
  case atStart => exact ⟨r0, d + 1, 0, List.replicate d 0, hlt, by omega, by omega, by omega, by omega, rfl, rfl, ledOk_nil d, hown2, hb2, HP⟩
  case round =>
    obtain ⟨r, f, c, led, hr, c0, c1, hf1, hf2, rfl, rfl, HL, hown, hb, HI⟩ := hrel
    have hlen : led.length = d := HL.out.len
    obtain ⟨g', e, -, hgl, -, -, hcell, hfro⟩ := hown.form (by omega)
    injection e with e
    injection e with e
    subst e
    have hc := hcell r (by omega)
    have hf := hfro r
    have hall := HL.out.all r hr
    have HSET := Lib.hid (IR.set hown r (c + 1))
    rcases f with _ | f
    · omega
    by_cases hr0 : r = 0
    · subst hr0
      rw [show ((0 : Nat) : Int) = 0 from rfl] at HI ⊢
      have HC := Lib.hid hcell
      have HLEN := Lib.hid hlen
      clear hcell hfro hlen hc hf hall
      go_wp2_with fail
      go_loop [8, 9] (fun m i => ∃ k : Nat, k ≤ d ∧ i = .int .i64 k ∧ m = .int .i64 (mx led k)) (fun _ i => d - (intOf i).toNat)
      case atStart => exact ⟨0, Nat.zero_le _, rfl, rfl⟩
      case round =>
        obtain ⟨k, hk, rfl, rfl⟩ := hrel
        by_cases hlt : k < d
        · have hck := HC.out k (by rw [HLEN.out]; exact hlt)
          have HX := Lib.hid (show mx led (k + 1) = if mx led k < ix led k then ix led k else mx led k from rfl)
          by_cases hmx : mx led k < ix led k
          · rw [if_pos hmx] at HX
            go_wp2_with fail
            go_round
            case rel => exact ⟨k + 1, by omega, by go_num, int_eq HX.out.symm⟩
            case measure => simp [intOf] <;> omega
          · rw [if_neg hmx] at HX
            go_wp2_with fail
            go_round
            case rel => exact ⟨k + 1, by omega, by go_num, int_eq HX.out.symm⟩
            case measure => simp [intOf] <;> omega
        · obtain rfl : k = d := by omega
          go_wp2_with fail
          go_ret3
          exact ⟨perV_of (HI.out.trans (perF_zero.trans (by rw [mx_is HL.out]))), hb⟩
    · have hrp : (0 : Int) < r := by omega
      have HRN : (r : Int) ≠ 0 := by omega
      by_cases hv : ix led r = 0
      · have HGO := Lib.hid (HI.out.trans (perF_go HRN (by rw [Int.toNat_natCast]; exact hv)))
        have HST := Lib.hid (ledOk_step HL.out r hr hv)
        have hroom := ledOk_room HL.out r hr hv
        rw [Int.toNat_natCast] at HGO
        rw [hv] at hc
        clear hcell hfro hown hlen hall hv HI HL HRN
        have HE2 := Lib.hid (step_cast2 r d)
        have HE3 := Lib.hid (step_cast3 r d)
        rw [HE2.out] at HGO
        have hrl := Nat.mod_lt (r * 10) (show d > 0 by omega)
        have hd0 : ¬ (d : Int) = 0 := by omega
        go_wp2_with fail
        rw [HE3.out]
        generalize r * 10 % d = r' at *
        go_roundw
        case rel => exact ⟨r', f, c + 1, led.set r (c + 1), hrl, by omega, by omega, by omega, by omega, rfl, rfl, HST, HSET.out, hb.setCell (Nat.le_refl _) _, HGO⟩
        case measure => simp [intOf] <;> omega
      · have HBK := Lib.hid (HI.out.trans (perF_back HRN (by rw [Int.toNat_natCast]; exact hv)))
        rw [Int.toNat_natCast] at HBK
        have hv' : 0 < ix led r := by omega
        generalize ix led r = v at *
        clear hcell hfro hown hlen HSET HI HL HRN hv
        go_wp2_with fail
        go_quiet (fail)
        go_wp2_with fail
        go_ret3
        exact ⟨perV_of (HBK.out.trans (by congr 1; omega)), below_drewN hb _⟩

set_option maxHeartbeats 400000 in
theorem walkFnExactLongPeriod (a0 : Int) (w0 : (Lit.int .i64 a0).wf = true) (w : World) :
    Calls Try.prog 5 #[.int .i64 a0] w fun e w' => e = .returned (.bool true) ∧ Below w.heap.size w w' := by
  by_cases h : 1 ≤ a0 ∧ a0 ≤ 1000
  · obtain ⟨d, rfl⟩ := Int.eq_ofNat_of_zero_le (show 0 ≤ a0 by omega)
    obtain ⟨h1, h2⟩ := h
    go_enter Try.func5, Try.ntmps5
    go_wp2_with fail
    refine (sLongPeriod_yes d _ (by omega) (by omega)).mono ?_
    rintro e w1 ⟨rfl, hb1⟩
    unfold perV
    go_wp2_with fail
    refine (iLongPeriod_yes d _ (by omega) (by omega)).mono ?_
    rintro e w2 ⟨rfl, hb2⟩
    unfold perV
    generalize per (d : Int) = pp
    go_wp2_with fail
    go_ret
    exact ⟨rfl, hb1.trans (hb2.mono hb1.size)⟩
  · have h' : a0 < 1 ∨ 1000 < a0 := by omega
    go_enter Try.func5, Try.ntmps5
    go_wp2_with fail
    refine (sLongPeriod_no a0 _ h').mono ?_
    rintro e w' ⟨rfl, rfl⟩
    go_wp2_with fail
    refine (iLongPeriod_no a0 _ h').mono ?_
    rintro e w' ⟨rfl, rfl⟩
    go_wp2_with fail
    go_ret
    exact ⟨rfl, Below.refl _ _⟩

end Go.Proofs.Ytcekgegheffobaa
