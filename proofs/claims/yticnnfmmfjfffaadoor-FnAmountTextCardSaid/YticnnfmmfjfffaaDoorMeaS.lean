/- The walks of the reference's functions on measures and amounts. No condition but bounds on lengths. -/
import Derived.Test.YticnnfmmfjfffaaDoorMeaI
import Derived.Deep.RegionLaw
namespace Go.Proofs.YticnnfmmfjfffaaDoor
open Go.RowKit
set_option linter.unusedVariables false

/-- the box of a struct of one slice. -/
theorem box_cell (w : World) (v : Value) (t : TypeId) : (w.alloc (.cells #[v] t)).cell? ⟨w.heap.size, 0, none⟩ = some v := by simp
theorem box_keep {w w1 : World} {v : Value} {t : TypeId} (hb : Below (w.alloc (.cells #[v] t)).heap.size (w.alloc (.cells #[v] t)) w1) : w1.cell? ⟨w.heap.size, 0, none⟩ = some v :=
  (hb.cell (p := ⟨w.heap.size, 0, none⟩) (by simp)).trans (box_cell w v t)

theorem ir_mt (w : World) : IR (w.alloc (.cells #[] 3)) w.heap.size (some ⟨w.heap.size, 0, none⟩) 0 [] :=
  World.ownsRow_lit w #[] 0 (Nat.le_refl _) (by simp [maxLen]) rfl
theorem ir_one (w : World) (z : Int) : IR (w.alloc (.cells #[.int .i64 z] 3)) w.heap.size (some ⟨w.heap.size, 0, none⟩) 1 [z] :=
  World.ownsRow_lit w #[.int .i64 z] 1 (Nat.le_refl _) (by simp [maxLen]) rfl

theorem IR.drew1 {w : World} {B : Nat} {A : Option Addr} {c : Nat} {zs : List Int} (h : IR w B A c zs) : IR w.drew B A c zs := h
theorem grown_drew {w w' : World} {row : Option Nat} (h : w.drew.grownBy w' row) : w.grownBy w' row := ⟨h.os, h.tape, h.output, h.size, h.block⟩
theorem vld_ret {w w' : World} {rs : List Int} {b : Bool} (h : vldR rs = b) (hb : Below w.heap.size w w') : Ending.returned (.bool b) = .returned (.bool (vldR rs)) ∧ Below w.heap.size w w' := ⟨by rw [h], hb⟩
set_option maxHeartbeats 400000 in
theorem sMeasureValid_any (A : Option Addr) (c : Nat) (rs : List Int) (w : World) (hA : RD .i64 w w.heap.size A rs) (hl : rs.length ≤ 1048576) :
    Calls Tryd.prog 43 #[.agg #[.slice A rs.length c]] w fun e w' => e = .returned (.bool (vldR rs)) ∧ Below w.heap.size w w' := by
  have hbw := below_new w (.cells #[.slice A rs.length c] 25)
  have hA' := hA.to hbw
  go_enter Tryd.func43, Tryd.ntmps43
  go_wp2_with fail
  go_loop [3] (fun i => ∃ k : Nat, k ≤ rs.length ∧ i = .int .i64 k ∧ Hid (∀ x ∈ rs.take k, okR x = true)) (fun i => rs.length - (intOf i).toNat)
  case atStart => exact ⟨0, Nat.zero_le _, rfl, by simp [Hid]⟩
  case round =>
    obtain ⟨k, hk, rfl, HA⟩ := hrel
    by_cases hlt : k < rs.length
    · obtain ⟨b, off, rfl, hbb, hc⟩ := hA'.at_ hlt
      have HB := Lib.hid (vldR_bad (rs := rs) k hlt)
      have HS : Hid (okR (ix rs k) = true → ∀ x ∈ rs.take (k + 1), okR x = true) := by
        intro h x hx
        rw [List.take_succ_eq_append_getElem hlt, List.mem_append] at hx
        rcases hx with hx | hx
        · exact HA.out x hx
        · rw [List.mem_singleton] at hx; rw [hx, ← ix_eq rs hlt]; exact h
      generalize ix rs k = r at *
      by_cases h2 : 2 ≤ r ∧ r ≤ 100
      · have HO := Lib.hid (show okR r = true from okR_iff.2 h2)
        obtain ⟨h3, h4⟩ := h2
        go_wp2_with (go_at_call 36; refine (l6In_yes _ _ _ _ (by omega) (by omega)).mono ?_; rintro e w' ⟨rfl, rfl⟩)
        go_round
        case rel => exact ⟨k + 1, by omega, by go_num, HS.out HO.out⟩
        case measure => simp [intOf] <;> omega
      · have HO := Lib.hid (show okR r = false by rw [Bool.eq_false_iff]; exact fun h => h2 (okR_iff.1 h))
        have h3 : r < 2 ∨ 100 < r := by omega
        have H3 := Lib.hid h3
        clear h2 h3
        go_wp2_with (go_at_call 36; refine (l6In_no _ _ _ _ H3.out).mono ?_; rintro e w' ⟨rfl, rfl⟩)
        go_ret
        exact vld_ret (HB.out HO.out) hbw
    · have HE : Hid (vldR rs = decide (rs.length ≤ 4)) := by
        show _ = _
        have := HA.out
        rw [List.take_of_length_le (by omega)] at this
        rw [vldR, List.all_eq_true.2 this, Bool.and_true]
      go_wp2_with fail
      go_ret
      exact vld_ret (HE.out.trans (by rw [Bool.eq_iff_iff]; simp; omega)) hbw

/-- what 'append([]int{z}, xs...)' does, as a step of a region that draws its order. -/
theorem step_cons {w : World} {z : Int} {ops : Array Oper} {o : Oper} {a : Act} {K : Act → World → Prop} {Q : Exit → Act → World → Prop} {E : Prop} (hgd : o.guard = none) (s x : Operand)
    (ho : o.op = .call { callee := .builtin .append, args := #[s, x], argTypes := #[23, 23] })
    (B : Nat) (A : Option Addr) (c : Nat) (zs : List Int) (n : Nat) (hn : n = zs.length) (hx : a.eval x = .slice A n c) (hown : IR w B A c zs) (hz : 0 < zs.length)
    (sz : Nat) (hs : a.eval s = .slice (some ⟨sz, 0, none⟩) 1 1) (hlit : IR w B (some ⟨sz, 0, none⟩) 1 [z]) (hsz : w.heap.size ≤ sz + 1) (hlen : zs.length < 2000000) (hB : B ≤ w.heap.size)
    (h : ∀ A' c' w', IR w' B A' c' (z :: zs) → w.grownBy w' (some sz) → K (a.put o.dst (.slice A' (zs.length + 1) c')) w') :
    if Region.wanted o (yielded ops a.tmps) = true then Oper.wp Tryd.prog o a w K Q else E := by
  subst hn
  obtain ⟨i0, hi0, hz0, hz1, hz2⟩ := info_parts int_info
  obtain ⟨g, rfl, hg0, hgl, _, _, hcell, _⟩ := hown.form hz
  refine step_append_lies w hgd s x 23 ho B 3 i0 _ 1 8 Tryd.underlying23 hi0 hz0 hz1 hz2 rfl (by omega) _ 1 _ hs hlit ⟨g, 0, none⟩ zs.length c (zs.map (Value.int .i64)) hx (by simp) ?_ (ints_oneCell _ _) hz (by simp only [maxLen]; omega) (by omega) hB _ rfl ?_
  · intro j u hu
    have hj : j < zs.length := by
      rcases Nat.lt_or_ge j zs.length with h | h
      · exact h
      · rw [List.getElem?_eq_none (by simpa using h)] at hu; cases hu
    rw [List.getElem?_map, ix_some zs hj] at hu
    simp only [Option.map_some, Option.some.injEq] at hu
    subst hu
    have ha : (⟨g, 0, none⟩ : Addr).add j = ⟨g, j, none⟩ := by unfold Addr.add; split <;> simp_all
    rw [ha]
    exact hcell j hj
  · intro g' cap w' hown' hg hat hlt
    have e : Value.slice (some ⟨g', 0, none⟩) (1 + zs.length) cap = .slice (some ⟨g', 0, none⟩) (zs.length + 1) cap := by rw [Nat.add_comm]
    rw [e] at hown' ⊢
    refine h _ _ w' ?_ hg
    unfold IR
    rw [List.length_cons, List.map_cons]
    rw [Nat.add_comm 1] at hown'
    exact hown'

set_option maxHeartbeats 1000000 in
theorem sMeasureWorths_any (A : Option Addr) (c : Nat) (rs : List Int) (w : World) (hA : RD .i64 w w.heap.size A rs) (hl : rs.length ≤ 1048576) :
    Calls Tryd.prog 35 #[.agg #[.slice A rs.length c]] w (RetInts w (mw rs)) := by
  have hbw := below_new w (.cells #[.slice A rs.length c] 25)
  cases hv : vldR rs with
  | false =>
    have HV := Lib.hid hv
    clear hv
    go_enter Tryd.func35, Tryd.ntmps35
    go_wp2_with fail
    refine (sMeasureValid_any A c rs _ (hA.new _) hl).mono ?_
    rintro e w1 ⟨rfl, hb1⟩
    rw [HV.out]
    go_wp2_with fail
    go_ret
    rw [mw_no HV.out]
    exact ⟨_, _, rfl, (ir_mt w1).from_ (below_then hbw hb1), below_then (below_then hbw hb1) (below_new _ _)⟩
  | true =>
    have HV := Lib.hid hv
    clear hv
    have hl4 := (vldR_iff.1 HV.out).1
    have HR := Lib.hid (vldR_iff.1 HV.out).2
    go_enter Tryd.func35, Tryd.ntmps35
    go_wp2_with fail
    refine (sMeasureValid_any A c rs _ (hA.new _) hl).mono ?_
    rintro e w1 ⟨rfl, hb1⟩
    rw [HV.out]
    have hc1 := box_keep hb1
    have hbb := below_then hbw hb1
    have hs1 := hb1.size
    have hs2 : w.heap.size < w1.heap.size := by simp at hs1; omega
    clear hs1
    go_wp2_with fail
    go_loopw [3, 4] (fun v i wr => ∃ (k : Nat) (A' : Option Addr) (c' : Nat), k ≤ rs.length ∧ i = .int .i64 ((k : Int) - 1) ∧ v = .slice A' (wor (rs.drop k)).length c' ∧ IR wr w1.heap.size A' c' (wor (rs.drop k)) ∧ Below w1.heap.size w1 wr) (fun _ i _ => (intOf i + 1).toNat)
    case atStart => exact ⟨rs.length, _, _, Nat.le_refl _, rfl, by simp [wor]; exact ⟨rfl, rfl⟩, by simpa [wor] using ir_one w1 1, below_new _ _⟩
    case round =>
      obtain ⟨k, A', c', hk, rfl, rfl, hown, hb⟩ := hrel
      have hc2 : wr.cell? ⟨w.heap.size, 0, none⟩ = some (.slice A rs.length c) := (hb.cell (p := ⟨w.heap.size, 0, none⟩) (by simp; omega)).trans hc1
      rcases k with _ | j
      · have HW := Lib.hid (show mw rs = wor (rs.drop 0) by rw [mw_yes HV.out]; rfl)
        go_wp2_with fail
        go_ret
        rw [HW.out]
        exact ⟨A', c', rfl, hown.from_ hbb, below_then hbb hb⟩
      · rw [show (((j + 1 : Nat) : Int) - 1) = (j : Int) by omega]
        obtain ⟨b, off, rfl, hbb2, hc3⟩ := (hA.to (below_then hbb hb)).at_ (i := j) (by omega)
        obtain ⟨g, rfl, hg1, hg2, _, _, hcell, _⟩ := hown.form (by rw [wor_len]; omega)
        have hc4 := hcell 0 (by rw [wor_len]; omega)
        have hbd := wor_head_bd 4 (rs.drop (j + 1)) (by simp; omega) (fun x hx => HR.out x (List.mem_of_mem_drop hx))
        have hr := okR_iff.1 (HR.out (ix rs j) (by rw [ix_eq rs (by omega)]; exact List.getElem_mem _))
        have HW := Lib.hid (show wor (rs.drop j) = ix rs j * ix (wor (rs.drop (j + 1))) 0 :: wor (rs.drop (j + 1)) by rw [drop_cons rs j (by omega), wor])
        have hlw := wor_len (rs.drop (j + 1))
        have hlw2 : 0 < (wor (rs.drop (j + 1))).length ∧ (wor (rs.drop (j + 1))).length ≤ 5 := by rw [hlw]; simp; omega
        clear hlw hcell
        generalize ix rs j = r at *
        generalize wor (rs.drop (j + 1)) = ws at *
        have hm1 := Int.mul_le_mul hr.2 hbd.2 (by omega) (by decide)
        have hm0 := Int.mul_nonneg (show 0 ≤ r by omega) (show 0 ≤ ix ws 0 by omega)
        have hm2 : r * ix ws 0 ≤ 10000000000 := hm1
        clear hm1
        go_wp2_with fail
        have hj : j < rs.length := by omega
        have hj' : (j : Int) < rs.length := by omega
        have hw5 : (0 : Int) < ws.length := by omega
        have hl6 : ws.length < 2000000 := by omega
        have hB0 : ∀ o : Obj, w1.heap.size ≤ (wr.alloc o).drew.heap.size := fun o => by have := hb.size; simp; omega
        have hS0 : ∀ o : Obj, (wr.alloc o).drew.heap.size ≤ wr.heap.size + 1 := fun o => by simp
        have hwr : IntKind.i64.wrap (r * ix ws 0) = r * ix ws 0 := IntWalk.i64_in _ (by omega)
        go_region_law ((refine step_cons (by rfl) _ _ (by rfl) w1.heap.size (some ⟨g, 0, none⟩) c' ws _ rfl (by rfl) (hown.alloc _).drew1 hlw2.1 wr.heap.size (by rfl) ((ir_one wr (r * ix ws 0)).drew1.mono hb.size) (hS0 _) hl6 (hB0 _) ?_; intro A2 c2 w2 hi2 hg2))
        all_goals
          clear hwr hB0 hS0
          go_wp2_with fail
          go_roundw
          case rel =>
            refine ⟨j, A2, c2, by omega, by first | rfl | go_num, by rw [HW.out]; rfl, by rw [HW.out]; exact hi2, ?_⟩
            exact (hb.alloc hb.size _).drew.grown hg2 (by have := hb.size; simp; omega) (fun k e => by simp at e; have := hb.size; omega)
          case measure => simp [intOf] <;> omega

theorem lst_len0 {rs ns : List Int} (h : vldR rs = false) : lst rs ns = -1 := by rw [lst, if_neg (by simp [h])]
set_option maxHeartbeats 1000000 in
theorem l7Least_any (A C : Option Addr) (c d : Nat) (rs ns : List Int) (w : World) (hA : RD .i64 w w.heap.size A rs) (hl : rs.length ≤ 1048576) (hC : RD .i64 w w.heap.size C ns) (hl2 : ns.length ≤ 1048576) :
    Calls Tryd.prog 28 #[.agg #[.slice A rs.length c], .slice C ns.length d] w fun e w' => e = .returned (.int .i64 (lst rs ns)) ∧ Below w.heap.size w w' := by
  have hbw := below_new w (.cells #[.slice A rs.length c] 25)
  cases hv : vldR rs with
  | false =>
    have HV := Lib.hid (mw_no hv)
    have HL := Lib.hid (lst_len0 (ns := ns) hv)
    clear hv
    go_enter Tryd.func28, Tryd.ntmps28
    go_wp2_with fail
    refine (sMeasureWorths_any A c rs _ (hA.new _) hl).mono ?_
    rintro e w1 ⟨A1, c1, rfl, hi1, hb1⟩
    rw [HV.out]
    go_wp2_with fail
    go_ret
    exact ⟨by rw [HL.out]; rfl, below_then hbw hb1⟩
  | true =>
    have HV := Lib.hid (mw_yes hv)
    have HW := Lib.hid (wor_ixs hv)
    have hl4 := (vldR_iff.1 hv).1
    have HWL := Lib.hid (wor_len rs)
    by_cases hlen : ns.length = rs.length + 1
    · have HL := Lib.hid (show lst rs ns = lstF ns (wor rs) 0 by rw [lst, if_pos ⟨hv, hlen⟩])
      clear hv
      have hw1 : (((wor rs).length : Int) == 0) = false := by rw [HWL.out]; exact beq_eq_false_iff_ne.2 (by omega)
      have hw2 : ((ns.length : Int) != ((wor rs).length : Int)) = false := by rw [HWL.out, hlen]; simp
      have HN := Lib.hid (show ns.length = (wor rs).length by rw [HWL.out]; exact hlen)
      clear hlen
      go_enter Tryd.func28, Tryd.ntmps28
      go_wp2_with fail
      refine (sMeasureWorths_any A c rs _ (hA.new _) hl).mono ?_
      rintro e w1 ⟨A1, c1, rfl, hi1, hb1⟩
      rw [HV.out] at hi1 ⊢
      have hbb := below_then hbw hb1
      have hC' := hC.to hbb
      have hW' := hi1.rd
      clear hi1
      have hl5 : (wor rs).length ≤ 5 := by rw [HWL.out]; omega
      go_wp2_with fail
      clear hw1 hw2
      go_loopw [6, 7] (fun s i wr => ∃ (k : Nat) (acc : Int), k ≤ ns.length ∧ 0 ≤ acc ∧ acc ≤ 1000000000 ∧ i = .int .i64 k ∧ s = .int .i64 acc ∧ Hid (lstF ns (wor rs) 0 = lstF (ns.drop k) ((wor rs).drop k) acc) ∧ ∃ n, wr = w1.drewN n) (fun _ i _ => ns.length - (intOf i).toNat)
      case atStart => exact ⟨0, 0, Nat.zero_le _, by omega, by omega, rfl, rfl, rfl, 0, rfl⟩
      case round =>
        obtain ⟨k, acc, hk, a0, a1, rfl, rfl, HS, nd, rfl⟩ := hrel
        by_cases hlt : k < ns.length
        · have hlt2 : k < (wor rs).length := by rw [← HN.out]; exact hlt
          obtain ⟨b, off, rfl, hbb1, hc⟩ := hW'.at_ hlt2
          obtain ⟨b2, off2, rfl, hbb2, hc2⟩ := hC'.at_ hlt
          have hb := HW.out k hlt2
          have HT := Lib.hid (HS.out)
          rw [drop_cons ns k hlt, drop_cons (wor rs) k hlt2] at HT
          clear HS
          generalize ix (wor rs) k = v at *
          generalize ix ns k = n at *
          have hlt' : (k : Int) < ns.length := by omega
          have hlt2' : (k : Int) < (wor rs).length := by omega
          by_cases h2 : n < 0 ∨ 1000000000 < n
          · have H2 := Lib.hid h2
            clear h2
            go_wp2_with (go_at_call 36; refine (l6In_no _ _ _ _ H2.out).mono ?_; rintro e w' ⟨rfl, rfl⟩)
            go_ret
            exact ⟨by rw [HL.out, HT.out, lstF_bad H2.out]; rfl, below_drewN hbb _⟩
          · have h3 : 0 ≤ n ∧ n ≤ 1000000000 := by omega
            have H2 := Lib.hid h2
            clear h2
            have hm1 := Int.mul_le_mul h3.2 hb.2 (by omega) (by decide)
            have hm0 := Int.mul_nonneg h3.1 (show 0 ≤ v by omega)
            have hm3 : n * v ≤ 100000000000000000 := hm1
            clear hm1
            obtain ⟨h3, h3'⟩ := h3
            go_wp2_with (go_at_call 36; refine (l6In_yes _ _ _ _ h3 h3').mono ?_; rintro e w' ⟨rfl, rfl⟩)
            have s1 : IntKind.i64.wrap (n * v) = n * v := IntWalk.i64_in _ (by omega)
            have s2 : IntKind.i64.wrap (acc + n * v) = acc + n * v := IntWalk.i64_in _ (by omega)
            go_quiet (fail)
            clear s1 s2
            by_cases h4 : 1000000000 < acc + n * v
            · go_wp2_with fail
              go_ret
              exact ⟨by rw [HL.out, HT.out, lstF_much H2.out h4]; rfl, below_drewN hbb _⟩
            · go_wp2_with fail
              go_roundw
              case rel => exact ⟨k + 1, acc + n * v, by omega, by omega, by omega, by go_num, rfl, HT.out.trans (lstF_go H2.out (by omega)), _, rfl⟩
              case measure => simp [intOf] <;> omega
        · have HE : Hid (lstF ns (wor rs) 0 = acc) := by
            show _ = _
            rw [HS.out, List.drop_of_length_le (by omega)]
            cases List.drop k (wor rs) <;> rfl
          go_wp2_with fail
          go_ret
          exact ⟨by rw [HL.out, HE.out]; rfl, below_drewN hbb _⟩
    · have HL := Lib.hid (show lst rs ns = -1 by rw [lst, if_neg (fun h => hlen h.2)])
      clear hv
      have hw1 : (((wor rs).length : Int) == 0) = false := by rw [HWL.out]; exact beq_eq_false_iff_ne.2 (by omega)
      have hw2 : ((ns.length : Int) != ((wor rs).length : Int)) = true := by rw [HWL.out]; simp; omega
      clear hlen
      go_enter Tryd.func28, Tryd.ntmps28
      go_wp2_with fail
      refine (sMeasureWorths_any A c rs _ (hA.new _) hl).mono ?_
      rintro e w1 ⟨A1, c1, rfl, hi1, hb1⟩
      rw [HV.out]
      go_wp2_with fail
      go_ret
      exact ⟨by rw [HL.out]; rfl, below_then hbw hb1⟩

end Go.Proofs.YticnnfmmfjfffaaDoor
