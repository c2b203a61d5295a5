/- The walk of impl's TalliesMerge. -/
import Derived.Test.YtahlflennmdckaaTalV
namespace Go.Proofs.Ytahlflennmdckaa
open Go.RowKit Go.PlainAid
set_option linter.unusedVariables false
set_option linter.unusedSimpArgs false

/-- The cells of owed. -/
def owC (ts : List Tal) : Array Value := ((List.range 25).map fun q : Nat => Value.int .i64 (owes ts ((q / 5 : Nat) : Int) ((q % 5 : Nat) : Int))).toArray
theorem owC_at (ts : List Tal) {i j : Nat} (hi : i < 5) (hj : j < 5) : (owC ts)[i * 5 + j]? = some (.int .i64 (owes ts i j)) := by
  unfold owC
  have e1 : (i * 5 + j) / 5 = i := by omega
  have e2 : (i * 5 + j) % 5 = j := by omega
  rw [List.getElem?_toArray, List.getElem?_map, List.getElem?_range (by omega)]
  simp only [Option.map_some, e1, e2]
theorem owC_next (ts : List Tal) (t : Tal) {d c : Nat} (hd : d < 5) (hc : c < 5) (e1 : t.d = d) (e2 : t.c = c) : (owC ts).setIfInBounds (d * 5 + c) (.int .i64 (owes ts d c + wt t)) = owC (ts ++ [t]) := by
  apply Array.ext_getElem?
  intro q
  rw [Array.getElem?_setIfInBounds]
  by_cases hq : d * 5 + c = q
  · subst hq
    rw [if_pos rfl, owC_at (ts ++ [t]) hd hc, if_pos (by simp [owC]; omega), owes_snoc]
    unfold ow
    rw [if_pos ⟨e1, e2⟩]
  · rw [if_neg hq]
    unfold owC
    simp only [List.getElem?_toArray, List.getElem?_map]
    by_cases h25 : q < 25
    · rw [List.getElem?_range h25]
      simp only [Option.map_some, Option.some.injEq]
      rw [owes_snoc]
      unfold ow
      rw [if_neg (by rw [e1, e2]; omega), Int.add_zero]
    · rw [List.getElem?_eq_none (by simp; omega)]
      rfl

set_option maxHeartbeats 8000000 in
theorem iTalliesMerge (A : Option Addr) (c : Nat) (ts : List Tal) (w : World) (h : TR w w.heap.size A ts) (hs : TS ts) (hl : ts.length ≤ 2000000) :
    Calls Try.prog 47 #[.slice A ts.length c] w (RetTB w (meR ts) (meB ts)) := by
  have c1 := debtsOf_any A c ts w h hs hl
  cases hv : tvB ts with
  | false =>
    rw [me_no (me_tv hv), me_tv hv]
    have d1 := c1.mono fun e w' h => deb_no hv h
    clear hv c1 h hs
    go_enter Try.func47, Try.ntmps47
    go_wp2_with (go_at_call 70; refine d1.mono ?_; rintro e w1 ⟨A1, k1, n1, rfl, hb1⟩)
    go_ret2
    exact ⟨_, _, rfl, ti_nil _ _, hb1⟩
  | true =>
    have d1 := c1.mono fun e w' h => deb_yes hv h
    obtain ⟨V, hV⟩ : ∃ V, meB ts = V := ⟨_, rfl⟩
    obtain ⟨R, hR⟩ : ∃ R, meR ts = R := ⟨_, rfl⟩
    rw [hV, hR]
    have HV := Lib.hid hV
    have HR := Lib.hid hR
    have HX := Lib.hid hv
    have HOK := Lib.hid (tv_yes hv).2
    have hlen := (tv_yes hv).1
    clear hV hR hv c1 h hs
    go_enter Try.func47, Try.ntmps47
    go_wp2_with fail
    refine d1.mono ?_
    rintro e w1 ⟨A1, k1, rfl, hdi, hb1⟩
    have HD := Lib.hid (OR.rd hdi)
    clear hdi d1
    have b0 := Blk.new w1 97 (owC [])
    go_wp2_with fail
    go_loopw [8, 24] (fun _ i wr => ∃ k : Nat, k ≤ ts.length ∧ i = .int .i64 k ∧ Blk wr w1.heap.size 97 (owC (ts.take k)) ∧ Below w1.heap.size w1 wr) (fun _ i _ => ts.length - (intOf i).toNat)
    case atStart => exact ⟨0, Nat.zero_le _, rfl, b0, (Below.refl _ _).alloc (Nat.le_refl _) _⟩
    case round =>
      obtain ⟨k, hk, rfl, hB, hb⟩ := hrel
      clear b0
      have hBl := hB.lt
      by_cases hlt : k < ts.length
      · obtain ⟨b, off, rfl, hbb, t0, t1, t2⟩ := DR.at_ (RC.below HD.out hb (Nat.le_refl _)) hlt
        obtain ⟨d, c', e1, e2, hd, hc, hdc, x0, x9⟩ := tok_dc (HOK.out _ (tx_mem ts hlt))
        have hbd := owes_bd d c' (ts.take k)
        have hlk : ((ts.take k).length : Int) ≤ 12 := by rw [List.length_take]; omega
        have hnext := Lib.hid (owC_next (ts.take k) (tx ts k) hd hc e1 e2)
        rw [← tx_take ts hlt] at hnext
        rw [e1] at t0
        rw [e2] at t1
        have cd := (hB.cell (d * 5 + c')).trans (owC_at (ts.take k) hd hc)
        have fd := hB.frozen (d * 5 + c')
        generalize wt (tx ts k) = x at *
        generalize owes (ts.take k) d c' = p at *
        have hbw : b < wr.heap.size := by have := hb.size; omega
        have n1 : ¬ w1.heap.size = wr.heap.size := by omega
        have n2 : ¬ wr.heap.size = w1.heap.size := by omega
        have i1 : (0 : Int) ≤ (d : Int) := by omega
        have i2 : (d : Int) < 5 := by omega
        have i3 : (0 : Int) ≤ (c' : Int) := by omega
        have i4 : (c' : Int) < 5 := by omega
        have s1 : IntKind.i64.wrap (p + x) = p + x := IntWalk.i64_in _ (by omega)
        clear e1 e2
        go_wp2_with fail
        go_region
        all_goals
          go_wp2_with fail
          go_roundw
          case rel =>
            refine ⟨k + 1, by omega, by go_num, ?_, ?_⟩
            · have := (hB.set_ (d * 5 + c') (.int .i64 (p + x))).alloc (.cells #[.int .i64 (d : Int), .int .i64 (c' : Int), .int .i64 x] 77)
              rw [hnext.out] at this
              exact this
            · exact ((hb.setCell (p := ⟨w1.heap.size, d * 5 + c', none⟩) (Nat.le_refl _) _).alloc (by simpa [World.setCell] using hb.size) _).drew
          case measure => simp [intOf] <;> omega
      · have HE := Lib.hid (show k = ts.length by omega)
        rw [HE.out, List.take_of_length_le (Nat.le_refl _)] at hB
        obtain ⟨w2, rfl⟩ : ∃ w2 : World, w2 = wr := ⟨_, rfl⟩
        have T2 := Lib.hid (below_then2 hb1 hb)
        have HB := Lib.hid hB
        have hgl : w1.heap.size < w2.heap.size := hBl
        clear hB hBl hb HD
        go_wp2_with fail
        go_loopw [9, 10, 11, 12, 13, 14] (fun s a _ _ _ _ wr => ∃ (i : Nat) (out : List Tal) (A' : Option Addr) (c' : Nat), i ≤ 5 ∧ a = .int .i64 i ∧ s = .slice A' out.length c' ∧ TI wr (w1.heap.size + 1) A' c' out ∧ Hid (Sofar ts i (i + 1) out) ∧ Hid (Blk wr w1.heap.size 97 (owC ts)) ∧ w1.heap.size < wr.heap.size ∧ Below w.heap.size w wr) (fun _ a _ _ _ _ _ => 5 - (intOf a).toNat)
        case atStart => exact ⟨0, [], _, _, by omega, rfl, rfl, (ti_none' w2 _ rfl).mono hgl, sofar_start ts, HB.out.alloc _, by simp; omega, T2.out.alloc T2.out.size _⟩
        case round =>
          obtain ⟨i, out, A', c', hi, rfl, rfl, ho, hso, hB, hBl, hb⟩ := hrel
          clear HB hgl T2
          by_cases hi5 : i < 5
          · obtain ⟨wo, rfl⟩ : ∃ wo : World, wo = wr := ⟨_, rfl⟩
            have q1 : decide ((i : Int) < 5) = true := by simp; omega
            go_wp2_with fail
            go_loopw [9, 11, 12, 13, 14] (fun s b _ _ _ wr => ∃ (j : Nat) (out : List Tal) (A' : Option Addr) (c' : Nat), i < j ∧ j ≤ 5 ∧ b = .int .i64 j ∧ s = .slice A' out.length c' ∧ TI wr (w1.heap.size + 1) A' c' out ∧ Hid (Sofar ts i j out) ∧ Hid (Blk wr w1.heap.size 97 (owC ts)) ∧ w1.heap.size < wr.heap.size ∧ Below w.heap.size w wr) (fun _ b _ _ _ _ => 5 - (intOf b).toNat)
            case atStart => exact ⟨i + 1, out, A', c', by omega, by omega, by go_num, rfl, ho, hso, hB, hBl, hb⟩
            case round =>
              clear ho hso hb hB hBl
              obtain ⟨j, out, A', c', hij, hj, rfl, rfl, ho, hso, hB, hBl, hb⟩ := hrel
              by_cases hj5 : j < 5
              · have q1 : decide ((j : Int) < 5) = true := by simp; omega
                have hol : out.length ≤ 30 := hso.out.2.2
                have p0 := owes_bd i j ts
                have p1 := owes_bd j i ts
                have hlen' : (ts.length : Int) ≤ 12 := by omega
                have hn := Lib.hid (fun h => sofar_next hso.out hij hj5 h)
                have hf := Lib.hid (fun h => mok_no (ts := ts) hij hj5 h)
                unfold dif at hn hf
                have htw : twoB i j = true := by unfold twoB; simp; omega
                have HW := Lib.hid htw
                have cij := (hB.out.cell (i * 5 + j)).trans (owC_at ts (by omega) hj5)
                have cji := (hB.out.cell (j * 5 + i)).trans (owC_at ts hj5 (by omega))
                have hB0 : w.heap.size ≤ wr.heap.size := hb.size
                clear htw
                generalize owes ts i j = p at *
                generalize owes ts j i = q at *
                obtain ⟨x, hx⟩ : ∃ x, p - q = x := ⟨_, rfl⟩
                have hnx : Hid (inB x = true → Sofar ts i (j + 1) (out ++ one i j x)) := fun h => by have := hn.out; rw [hx] at this; exact this h
                have hfx : Hid (inB x = false → meB ts = false) := fun h => by have := hf.out; rw [hx] at this; exact this h
                have hxb : -240000 ≤ x ∧ x ≤ 240000 := by omega
                clear hn hf
                have s1 : IntKind.i64.wrap (p - q) = x := by rw [hx]; exact IntWalk.i64_in _ (by omega)
                have s2 : IntKind.i64.wrap (-x) = -x := IntWalk.i64_in _ (by omega)
                have i1 : (0 : Int) ≤ (i : Int) := by omega
                have i2 : (i : Int) < 5 := by omega
                have i3 : (0 : Int) ≤ (j : Int) := by omega
                have i4 : (j : Int) < 5 := by omega
                have n1 : ¬ w1.heap.size = wr.heap.size := by omega
                have n2 : ¬ wr.heap.size = w1.heap.size := by omega
                have HI := Lib.hid hx
                have ci := fun w => tally_any i j x w
                have cj := fun w => tally_any j i (-x) w
                unfold TalPost at ci cj
                have hcase : x = 0 ∨ (1 ≤ x ∧ x ≤ 9999) ∨ 9999 < x ∨ (x < 0 ∧ -9999 ≤ x) ∨ x < -9999 := by omega
                rcases hcase with h | ⟨h1, h9⟩ | h9 | ⟨h1, h9⟩ | h9
                · subst h
                  have hsn := Lib.hid (hnx.out rfl)
                  rw [one_zero, List.append_nil] at hsn
                  clear ci cj hx
                  go_wp2_with fail
                  go_region
                  all_goals
                    go_wp2_with fail
                    go_roundw
                    case rel => exact ⟨j + 1, out, A', c', by omega, by omega, by go_num, rfl, OR.alloc ho _, hsn.out, Blk.alloc hB.out _, (by simp; omega), (hb.alloc hb.size _).drew⟩
                    case measure => simp [intOf] <;> omega
                · have hin : inB x = true := by unfold inB; simp; omega
                  have hsn := Lib.hid (hnx.out hin)
                  rw [one_pos (by omega)] at hsn
                  have htn : tnB i j x = true := by unfold tnB; rw [HW.out]; simp; omega
                  rw [tn_yes htn, htn] at ci
                  have HC := Lib.hid (tcells_append out [mkT i j x])
                  unfold mkT at ci
                  simp only at ci
                  have hnx0 : ¬ x < 0 := by omega
                  have hx0 : (x == 0) = false := beq_eq_false_iff_ne.2 (by omega)
                  obtain ⟨S, hS⟩ : ∃ S, ntx x.toNat = S := ⟨_, rfl⟩
                  rw [hS] at ci
                  have HSS := Lib.hid hS
                  clear hin htn cj hS hx
                  go_wp2_with fail
                  go_region
                  all_goals
                    go_wp2_with (first | (go_at_call 62; (with_reducible refine (ci _).mono ?_); rintro e w3 ⟨rfl, hb3⟩; have hw3 : wr.heap.size + 1 ≤ w3.heap.size := (by have := hb3.size; simpa using this); have ho3 := Lib.hid ((OR.below (OR.drewN (OR.alloc ho (.cells #[.int .i64 (i : Int), .int .i64 (j : Int), .int .i64 x] 77)) 1) hb3 (Nat.le_refl _)).alloc (.cells #[.int .i64 (i : Int), .int .i64 (j : Int), .string S, .string S] 36)); have hB3 : w1.heap.size + 1 ≤ (w3.alloc (.cells #[.int .i64 (i : Int), .int .i64 (j : Int), .string S, .string S] 36)).heap.size := (by simp; omega)) | (at_builtin; refine wpList_pushC rfl _ _ 46 36 rfl _ 4 48 tally_info Try.underlying46 rfl (by omega) (by omega) rfl (by simp [Value.oneCell']) (w1.heap.size + 1) A' c' out.length _ rfl ho3.out (w3.heap.size + 1) rfl (by simp) (by omega) hB3 ?_; intro A2 c2 w4 hown4 hg4 hb4 _))
                  all_goals
                    go_roundw
                    case rel =>
                      have hbA := (hb.alloc hb.size (.cells #[.int .i64 (i : Int), .int .i64 (j : Int), .int .i64 x] 77)).drew
                      have hbB := (below_then2 hbA hb3).alloc (by omega) (.cells #[.int .i64 (i : Int), .int .i64 (j : Int), .string S, .string S] 36)
                      refine ⟨j + 1, out ++ [mkT i j x], A2, c2, by omega, by omega, by go_num, by simp, ?_, hsn.out, ?_, ?_, hbB.trans (hb4.mono (by have := hb1.size; omega))⟩
                      · unfold TI
                        rw [HC.out, List.length_append]
                        have e : tcells [mkT i j x] = [.int .i64 (i : Int), .int .i64 (j : Int), .string S, .string S] := by rw [← HSS.out]; rfl
                        rw [e]; exact hown4
                      · exact (Blk.alloc (Blk.below (Blk.alloc hB.out (.cells #[.int .i64 (i : Int), .int .i64 (j : Int), .int .i64 x] 77)) ⟨hb3.os, hb3.tape, hb3.output, hb3.size, hb3.block⟩ (by simp; omega)) (.cells #[.int .i64 (i : Int), .int .i64 (j : Int), .string S, .string S] 36)).below hb4 (by omega)
                      · have := hg4.size
                        simp at this
                        omega
                    case measure => simp [intOf] <;> omega
                · have hff := Lib.hid (hfx.out (by unfold inB; simp; omega))
                  have htn : tnB i j x = false := by unfold tnB; simp; omega
                  rw [tn_no htn, htn] at ci
                  have hnx0 : ¬ x < 0 := by omega
                  have hx0 : (x == 0) = false := beq_eq_false_iff_ne.2 (by omega)
                  clear htn cj hx
                  go_wp2_with fail
                  go_region
                  all_goals
                    go_wp2_with (go_at_call 62; (with_reducible refine (ci _).mono ?_); rintro e w3 ⟨rfl, hb3⟩)
                    go_ret2
                    have hVf : V = false := by rw [← HV.out]; exact hff.out
                    have hRn : R = [] := by rw [← HR.out]; exact me_no hff.out
                    exact ⟨_, _, by rw [hVf, hRn]; rfl, by rw [hRn]; exact ti_nil _ _, (below_then2 (hb.alloc hb.size _).drew hb3).alloc (by have := hb3.size; have := hb.size; simp at *; omega) _⟩
                · have hin : inB x = true := by unfold inB; simp; omega
                  have hsn := Lib.hid (hnx.out hin)
                  rw [one_neg (by omega)] at hsn
                  have e0 : (0 - x : Int) = -x := by omega
                  rw [e0] at hsn
                  have htn : tnB j i (-x) = true := by unfold tnB; rw [two_sym HW.out]; simp; omega
                  rw [tn_yes htn, htn] at cj
                  have HC := Lib.hid (tcells_append out [mkT j i (-x)])
                  unfold mkT at cj
                  simp only at cj
                  have hx0 : (-x == 0) = false := beq_eq_false_iff_ne.2 (by omega)
                  obtain ⟨S, hS⟩ : ∃ S, ntx (-x).toNat = S := ⟨_, rfl⟩
                  rw [hS] at cj
                  have HSS := Lib.hid hS
                  clear hin htn ci hS hx e0
                  go_wp2_with fail
                  go_region
                  all_goals
                    go_wp2_with (first | (go_at_call 62; (with_reducible refine (cj _).mono ?_); rintro e w3 ⟨rfl, hb3⟩; have hw3 : wr.heap.size + 1 ≤ w3.heap.size := (by have := hb3.size; simpa using this); have ho3 := Lib.hid ((OR.below (OR.drewN (OR.alloc ho (.cells #[.int .i64 (j : Int), .int .i64 (i : Int), .int .i64 (-x)] 77)) 1) hb3 (Nat.le_refl _)).alloc (.cells #[.int .i64 (j : Int), .int .i64 (i : Int), .string S, .string S] 36)); have hB3 : w1.heap.size + 1 ≤ (w3.alloc (.cells #[.int .i64 (j : Int), .int .i64 (i : Int), .string S, .string S] 36)).heap.size := (by simp; omega)) | (at_builtin; refine wpList_pushC rfl _ _ 46 36 rfl _ 4 48 tally_info Try.underlying46 rfl (by omega) (by omega) rfl (by simp [Value.oneCell']) (w1.heap.size + 1) A' c' out.length _ rfl ho3.out (w3.heap.size + 1) rfl (by simp) (by omega) hB3 ?_; intro A2 c2 w4 hown4 hg4 hb4 _))
                  all_goals
                    go_roundw
                    case rel =>
                      have hbA := (hb.alloc hb.size (.cells #[.int .i64 (j : Int), .int .i64 (i : Int), .int .i64 (-x)] 77)).drew
                      have hbB := (below_then2 hbA hb3).alloc (by omega) (.cells #[.int .i64 (j : Int), .int .i64 (i : Int), .string S, .string S] 36)
                      refine ⟨j + 1, out ++ [mkT j i (-x)], A2, c2, by omega, by omega, by go_num, by simp, ?_, hsn.out, ?_, ?_, hbB.trans (hb4.mono (by have := hb1.size; omega))⟩
                      · unfold TI
                        rw [HC.out, List.length_append]
                        have e : tcells [mkT j i (-x)] = [.int .i64 (j : Int), .int .i64 (i : Int), .string S, .string S] := by rw [← HSS.out]; rfl
                        rw [e]; exact hown4
                      · exact (Blk.alloc (Blk.below (Blk.alloc hB.out (.cells #[.int .i64 (j : Int), .int .i64 (i : Int), .int .i64 (-x)] 77)) ⟨hb3.os, hb3.tape, hb3.output, hb3.size, hb3.block⟩ (by simp; omega)) (.cells #[.int .i64 (j : Int), .int .i64 (i : Int), .string S, .string S] 36)).below hb4 (by omega)
                      · have := hg4.size
                        simp at this
                        omega
                    case measure => simp [intOf] <;> omega
                · have hff := Lib.hid (hfx.out (by unfold inB; simp; omega))
                  have htn : tnB j i (-x) = false := by unfold tnB; simp; omega
                  rw [tn_no htn, htn] at cj
                  have hx0 : (-x == 0) = false := beq_eq_false_iff_ne.2 (by omega)
                  clear htn ci hx
                  go_wp2_with fail
                  go_region
                  all_goals
                    go_wp2_with (go_at_call 62; (with_reducible refine (cj _).mono ?_); rintro e w3 ⟨rfl, hb3⟩)
                    go_ret2
                    have hVf : V = false := by rw [← HV.out]; exact hff.out
                    have hRn : R = [] := by rw [← HR.out]; exact me_no hff.out
                    exact ⟨_, _, by rw [hVf, hRn]; rfl, by rw [hRn]; exact ti_nil _ _, (below_then2 (hb.alloc hb.size _).drew hb3).alloc (by have := hb3.size; have := hb.size; simp at *; omega) _⟩
              · have HE := Lib.hid (show j = 5 by omega)
                have q1 : decide ((j : Int) < 5) = false := by simp; omega
                go_wp2_with fail
                go_roundw
                case rel => exact ⟨i + 1, out, A', c', by omega, by go_num, rfl, ho, by have := hso.out; rw [HE.out] at this; exact sofar_row this, hB, hBl, hb⟩
                case measure => simp [intOf] <;> omega
          · have HE := Lib.hid (show i = 5 by omega)
            have q1 : decide ((i : Int) < 5) = false := by simp; omega
            go_wp2_with fail
            go_ret2
            have hso' := hso.out
            rw [HE.out] at hso'
            obtain ⟨e1, e2⟩ := sofar_end hso' HX.out
            rw [HV.out] at e1
            rw [HR.out] at e2
            exact ⟨A', c', by rw [e1, e2]; rfl, by rw [e2]; exact OR.mono ho (by have := hb1.size; omega), hb⟩

end Go.Proofs.Ytahlflennmdckaa
