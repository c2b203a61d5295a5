/- The walks of the reference's l6yBalance and of TalliesBalance, TalliesTotal, TalliesValid. -/
import Derived.Test.YtahlflennmdckaaTalE
import Derived.Test.YtahlflennmdckaaInts
namespace Go.Proofs.Ytahlflennmdckaa
open Go.RowKit Go.PlainAid
set_option linter.unusedVariables false
set_option linter.unusedSimpArgs false

theorem bals_at (ts : List Tal) {i : Nat} (hi : i < 5) : ix (bals ts) i = balP ts i := by
  have : i = 0 ∨ i = 1 ∨ i = 2 ∨ i = 3 ∨ i = 4 := by omega
  rcases this with e | e | e | e | e <;> subst e <;> rfl
theorem bals_next (ts : List Tal) (t : Tal) {d c : Nat} (hd : d < 5) (hc : c < 5) (hdc : d ≠ c) (e1 : t.d = d) (e2 : t.c = c) :
    ((bals ts).set c (balP ts c + wt t)).set d (balP ts d - wt t) = bals (ts ++ [t]) := by
  unfold bals
  simp only [bal_snoc]
  unfold cr
  rw [e1, e2]
  have h1 : d = 0 ∨ d = 1 ∨ d = 2 ∨ d = 3 ∨ d = 4 := by omega
  have h2 : c = 0 ∨ c = 1 ∨ c = 2 ∨ c = 3 ∨ c = 4 := by omega
  rcases h1 with e | e | e | e | e <;> rcases h2 with e' | e' | e' | e' | e' <;> first | (exfalso; omega) | (subst e; subst e'; simp <;> omega)
theorem bals_len (ts : List Tal) : (bals ts).length = 5 := rfl
theorem lsz_tok {t : Tal} (h : tokB t = true) : lsz t.s t.s.size = wt t := (sum_wo (tok_yes h).2.1).1

set_option maxHeartbeats 4000000 in
theorem l6yBalance_any (A : Option Addr) (c : Nat) (ts : List Tal) (w : World) (h : TR w w.heap.size A ts) (hs : TS ts) (hv : tvB ts = true) :
    Calls Try.prog 68 #[.slice A ts.length c] w (RetInts w (bals ts)) := by
  obtain ⟨hl, hok⟩ := tv_yes hv
  have HOK := Lib.hid hok
  have HT := Lib.hid h
  have HS := Lib.hid hs
  clear hv hok h hs
  go_enter Try.func68, Try.ntmps68
  go_wp2_with (at_make; refine wpList_mk rfl _ _ rfl _ _ 5 rfl rfl rfl rfl (by omega) ?_; intro w1 hown1 hb1)
  go_loopw [4, 5] (fun i _ wr => ∃ k : Nat, k ≤ ts.length ∧ i = .int .i64 k ∧ IR wr w.heap.size (some ⟨w.heap.size, 0, none⟩) 5 (bals (ts.take k)) ∧ Below w.heap.size w wr) (fun i _ _ => ts.length - (intOf i).toNat)
  case atStart => exact ⟨0, Nat.zero_le _, rfl, hown1, hb1⟩
  case round =>
    obtain ⟨k, hk, rfl, hB, hb⟩ := hrel
    by_cases hlt : k < ts.length
    · obtain ⟨b, off, rfl, hbb, t0, t1, t2, t3⟩ := TR.at_ (RC.below HT.out hb (Nat.le_refl _)) hlt
      have htok := HOK.out _ (tx_mem ts hlt)
      obtain ⟨d, c', e1, e2, hd, hc, hdc, x0, x9⟩ := tok_dc htok
      have hsz := HS.out.at_ hlt
      have hsum := fun w => l6ySum (tx ts k).s w hsz
      have hlsz := lsz_tok htok
      rw [hlsz] at hsum
      have hbd := balP_bd d (ts.take k)
      have hbc := balP_bd c' (ts.take k)
      have hlk : ((ts.take k).length : Int) ≤ 12 := by rw [List.length_take]; omega
      have hnext := Lib.hid (bals_next (ts.take k) (tx ts k) hd hc hdc e1 e2)
      rw [← tx_take ts hlt] at hnext
      rw [e1] at t0
      rw [e2] at t1
      obtain ⟨g, eg, _, hgl, _, _, hcell, hfro⟩ := hB.form (by rw [bals_len]; omega)
      injection eg with eg
      injection eg with eg
      subst eg
      have cd := hcell d hd
      have cc := hcell c' hc
      rw [bals_at _ hd] at cd
      rw [bals_at _ hc] at cc
      have fd := hfro d
      have fc := hfro c'
      clear hcell hfro hlsz htok
      generalize wt (tx ts k) = x at *
      generalize balP (ts.take k) d = p at *
      generalize balP (ts.take k) c' = q at *
      have hbw : b < wr.heap.size := by have := hb.size; omega
      have n1 : ¬ b = w.heap.size := by omega
      have n2 : ¬ w.heap.size = b := by omega
      have n3 : ¬ d = c' := hdc
      have n4 : ¬ c' = d := fun e => hdc e.symm
      have i1 : (0 : Int) ≤ (d : Int) := by omega
      have i2 : (d : Int) < 5 := by omega
      have i3 : (0 : Int) ≤ (c' : Int) := by omega
      have i4 : (c' : Int) < 5 := by omega
      have j1 : (0 : Int) ≤ (k : Int) := by omega
      have j2 : (k : Int) < (ts.length : Int) := by omega
      have s1 : IntKind.i64.wrap (p - x) = p - x := IntWalk.i64_in _ (by omega)
      have s2 : IntKind.i64.wrap (q + x) = q + x := IntWalk.i64_in _ (by omega)
      clear e1 e2
      go_wp2_with (go_at_call 52; (with_reducible refine (hsum _).mono ?_); rintro e w' ⟨rfl, rfl⟩)
      go_region
      all_goals
        go_wp2_with fail
        go_region
      all_goals
        go_wp2_with fail
        go_roundw
        case rel =>
          refine ⟨k + 1, by omega, by go_num, ?_, ?_⟩
          · have := (hB.set c' (q + x)).set d (p - x)
            rw [hnext.out] at this
            exact this
          · exact ((hb.setCell (p := ⟨w.heap.size, c', none⟩) (Nat.le_refl _) _).setCell (p := ⟨w.heap.size, d, none⟩) (Nat.le_refl _) _).drew.drew
        case measure => simp [intOf] <;> omega
    · have HE := Lib.hid (show k = ts.length by omega)
      rw [HE.out, List.take_of_length_le (Nat.le_refl _)] at hB
      go_wp2_with fail
      go_ret
      exact ⟨_, _, rfl, hB, hb⟩

theorem ir_none (w : World) : IR (w.alloc (.cells #[] 3)) w.heap.size (some ⟨w.heap.size, 0, none⟩) 0 [] :=
  World.ownsRow_lit w #[] 0 (Nat.le_refl _) (by simp [maxLen]) rfl
/-- The balances of tallies, nothing for other lists. -/
def tbR (ts : List Tal) : List Int := if tvB ts = true then bals ts else []
theorem tb_yes {ts : List Tal} (h : tvB ts = true) : tbR ts = bals ts := by unfold tbR; rw [h]; rfl
theorem tb_no {ts : List Tal} (h : tvB ts = false) : tbR ts = [] := by unfold tbR; rw [h]; rfl

theorem sTalliesBalance (A : Option Addr) (c : Nat) (ts : List Tal) (w : World) (h : TR w w.heap.size A ts) (hs : TS ts) (hl : ts.length ≤ 2000000) :
    Calls Try.prog 30 #[.slice A ts.length c] w (RetIB w (tbR ts) (tvB ts)) := by
  have c1 := sTalliesValid A c ts w h hs hl
  cases hv : tvB ts with
  | false =>
    rw [hv] at c1
    rw [tb_no hv]
    clear hv
    go_enter Try.func30, Try.ntmps30
    go_wp2_with (go_at_call 67; refine c1.mono ?_; rintro e w1 ⟨rfl, hb1⟩)
    go_ret2
    exact ⟨_, _, rfl, (ir_none w1).mono hb1.size, hb1.alloc hb1.size _⟩
  | true =>
    have c2 := fun w1 (hb1 : Below w.heap.size w w1) => l6yBalance_any A c ts w1 ((RC.below h hb1 (Nat.le_refl _)).mono hb1.size) hs hv
    rw [hv] at c1
    rw [tb_yes hv]
    clear hv h hs
    go_enter Try.func30, Try.ntmps30
    go_wp2_with (first | (go_at_call 67; refine c1.mono ?_; rintro e w1 ⟨rfl, hb1⟩) | (go_at_call 68; refine (c2 _ hb1).mono ?_; rintro e w2 ⟨A2, k2, rfl, hi2, hb2⟩))
    go_ret2
    exact ⟨_, _, rfl, hi2.mono hb1.size, below_then2 hb1 hb2⟩

theorem deb_no {ts : List Tal} (hv : tvB ts = false) {w : World} {e : Ending} {w' : World} (h : DebPost ts w e w') : ∃ A c n, e = .returned (.tuple #[.slice A n c, .bool false]) ∧ Below w.heap.size w w' := by
  obtain ⟨A, c, n, rfl, _, hb⟩ := h
  exact ⟨A, c, n, by rw [hv], hb⟩
theorem deb_yes {ts : List Tal} (hv : tvB ts = true) {w : World} {e : Ending} {w' : World} (h : DebPost ts w e w') : ∃ A c, e = .returned (.tuple #[.slice A ts.length c, .bool true]) ∧ DI w' w.heap.size A c ts ∧ Below w.heap.size w w' := by
  obtain ⟨A, c, n, rfl, h1, hb⟩ := h
  obtain ⟨rfl, hi⟩ := h1 hv
  exact ⟨A, c, by rw [hv], hi, hb⟩

theorem iTalliesValid (A : Option Addr) (c : Nat) (ts : List Tal) (w : World) (h : TR w w.heap.size A ts) (hs : TS ts) (hl : ts.length ≤ 2000000) :
    Calls Try.prog 76 #[.slice A ts.length c] w fun e w' => e = .returned (.bool (tvB ts)) ∧ Below w.heap.size w w' := by
  have c1 := debtsOf_any A c ts w h hs hl
  go_enter Try.func76, Try.ntmps76
  go_wp2_with (go_at_call 70; refine c1.mono ?_; rintro e w1 ⟨A1, k1, n1, rfl, -, hb1⟩)
  go_ret
  exact ⟨rfl, hb1⟩

set_option maxHeartbeats 4000000 in
theorem iTalliesBalance (A : Option Addr) (c : Nat) (ts : List Tal) (w : World) (h : TR w w.heap.size A ts) (hs : TS ts) (hl : ts.length ≤ 2000000) :
    Calls Try.prog 32 #[.slice A ts.length c] w (RetIB w (tbR ts) (tvB ts)) := by
  have c1 := debtsOf_any A c ts w h hs hl
  cases hv : tvB ts with
  | false =>
    rw [tb_no hv]
    have d1 := c1.mono fun e w' h => deb_no hv h
    clear hv c1
    go_enter Try.func32, Try.ntmps32
    go_wp2_with (go_at_call 70; refine d1.mono ?_; rintro e w1 ⟨A1, k1, n1, rfl, hb1⟩)
    go_ret2
    exact ⟨_, _, rfl, IR.nil_ _ _, hb1⟩
  | true =>
    rw [tb_yes hv]
    have d1 := c1.mono fun e w' h => deb_yes hv h
    have hv' := Lib.hid hv
    clear hv c1 h hs
    go_enter Try.func32, Try.ntmps32
    go_wp2_with fail
    refine d1.mono ?_
    rintro e w1 ⟨A1, k1, rfl, hdi, hb1⟩
    have HD := Lib.hid hdi
    clear hdi
    go_wp2_with (first | (at_make; refine wpList_mk0C rfl _ _ 43 3 rfl _ 1 8 int_info Try.underlying43 (by omega) _ 5 rfl rfl rfl (by omega) ?_; intro w2 hown2 hb2) | (go_at_call 71; refine (balances_any A1 k1 ts _ ((OR.rd HD.out).below hb2 (Nat.le_refl _) |>.mono hb2.size) hv'.out).mono ?_; rintro e w3 ⟨rfl, hb3⟩))
    have hx : OR w3 w1.heap.size 3 1 (some ⟨w1.heap.size, 0, none⟩) 5 0 [] := hown2.below hb3 (Nat.le_refl _)
    have hb13 : Below w1.heap.size w1 w3 := below_then2 hb2 hb3
    obtain ⟨zs, hzs⟩ : ∃ zs, bals ts = zs := ⟨_, rfl⟩
    rw [hzs]
    have HZ := Lib.hid hzs
    unfold bals at hzs
    generalize balP ts 0 = b0 at *
    generalize balP ts 1 = b1 at *
    generalize balP ts 2 = b2 at *
    generalize balP ts 3 = b3 at *
    generalize balP ts 4 = b4 at *
    subst hzs
    have I0 : ∀ w, (Instr.index 89 (.agg #[.int .i64 b0, .int .i64 b1, .int .i64 b2, .int .i64 b3, .int .i64 b4]) (.int .i64 0)).run Try.prog w = .ok (.int .i64 b0) w := fun _ => by kernel_rfl
    have I1 : ∀ w, (Instr.index 89 (.agg #[.int .i64 b0, .int .i64 b1, .int .i64 b2, .int .i64 b3, .int .i64 b4]) (.int .i64 1)).run Try.prog w = .ok (.int .i64 b1) w := fun _ => by kernel_rfl
    have I2 : ∀ w, (Instr.index 89 (.agg #[.int .i64 b0, .int .i64 b1, .int .i64 b2, .int .i64 b3, .int .i64 b4]) (.int .i64 2)).run Try.prog w = .ok (.int .i64 b2) w := fun _ => by kernel_rfl
    have I3 : ∀ w, (Instr.index 89 (.agg #[.int .i64 b0, .int .i64 b1, .int .i64 b2, .int .i64 b3, .int .i64 b4]) (.int .i64 3)).run Try.prog w = .ok (.int .i64 b3) w := fun _ => by kernel_rfl
    have I4 : ∀ w, (Instr.index 89 (.agg #[.int .i64 b0, .int .i64 b1, .int .i64 b2, .int .i64 b3, .int .i64 b4]) (.int .i64 4)).run Try.prog w = .ok (.int .i64 b4) w := fun _ => by kernel_rfl
    go_loopw [6, 8, 19] (fun s _ i wr => ∃ (k : Nat) (A6 : Option Addr) (c6 : Nat), k ≤ 5 ∧ i = .int .i64 k ∧ s = .slice A6 k c6 ∧ IR wr w1.heap.size A6 c6 ([b0, b1, b2, b3, b4].take k) ∧ Below w1.heap.size w1 wr) (fun _ _ i _ => 5 - (intOf i).toNat)
    case atStart => exact ⟨0, _, _, by omega, rfl, rfl, hx, hb13⟩
    case round =>
      obtain ⟨k, A6, c6, hk, rfl, rfl, hi, hb⟩ := hrel
      have hB : w1.heap.size ≤ wr.heap.size := hb.size
      clear hx hb13 hown2 hb2 hb3 HD
      have hk6 : k = 0 ∨ k = 1 ∨ k = 2 ∨ k = 3 ∨ k = 4 ∨ k = 5 := by omega
      rcases hk6 with rfl | rfl | rfl | rfl | rfl | rfl
      · go_wp2_with (at_builtin; refine wpList_push (by rfl) _ _ (by rfl) w1.heap.size A6 c6 _ _ (by rfl) (by rfl) hi wr.heap.size (by rfl) rfl (by simp) hB ?_; intro A7 c7 w7 hi7 _ hb7 _)
        go_roundw
        case rel => exact ⟨1, A7, c7, by omega, by go_num, rfl, hi7, hb.trans hb7⟩
        case measure => simp [intOf]
      · go_wp2_with (at_builtin; refine wpList_push (by rfl) _ _ (by rfl) w1.heap.size A6 c6 _ _ (by rfl) (by rfl) hi wr.heap.size (by rfl) rfl (by simp) hB ?_; intro A7 c7 w7 hi7 _ hb7 _)
        go_roundw
        case rel => exact ⟨2, A7, c7, by omega, by go_num, rfl, hi7, hb.trans hb7⟩
        case measure => simp [intOf]
      · go_wp2_with (at_builtin; refine wpList_push (by rfl) _ _ (by rfl) w1.heap.size A6 c6 _ _ (by rfl) (by rfl) hi wr.heap.size (by rfl) rfl (by simp) hB ?_; intro A7 c7 w7 hi7 _ hb7 _)
        go_roundw
        case rel => exact ⟨3, A7, c7, by omega, by go_num, rfl, hi7, hb.trans hb7⟩
        case measure => simp [intOf]
      · go_wp2_with (at_builtin; refine wpList_push (by rfl) _ _ (by rfl) w1.heap.size A6 c6 _ _ (by rfl) (by rfl) hi wr.heap.size (by rfl) rfl (by simp) hB ?_; intro A7 c7 w7 hi7 _ hb7 _)
        go_roundw
        case rel => exact ⟨4, A7, c7, by omega, by go_num, rfl, hi7, hb.trans hb7⟩
        case measure => simp [intOf]
      · go_wp2_with (at_builtin; refine wpList_push (by rfl) _ _ (by rfl) w1.heap.size A6 c6 _ _ (by rfl) (by rfl) hi wr.heap.size (by rfl) rfl (by simp) hB ?_; intro A7 c7 w7 hi7 _ hb7 _)
        go_roundw
        case rel => exact ⟨5, A7, c7, by omega, by go_num, rfl, hi7, hb.trans hb7⟩
        case measure => simp [intOf]
      · go_wp2
        go_ret2
        exact ⟨_, _, rfl, by rw [HZ.out]; exact hi.mono hb1.size, below_then2 hb1 hb⟩

/-- The total, -1 for no tallies. -/
def ttI (ts : List Tal) : Int := if tvB ts = true then tot ts else -1
theorem tot_snoc (ts : List Tal) (t : Tal) : tot (ts ++ [t]) = tot ts + wt t := by rw [tot_append]; simp [tot]
set_option maxHeartbeats 2000000 in
theorem iTalliesTotal (A : Option Addr) (c : Nat) (ts : List Tal) (w : World) (h : TR w w.heap.size A ts) (hs : TS ts) (hl : ts.length ≤ 2000000) :
    Calls Try.prog 40 #[.slice A ts.length c] w fun e w' => e = .returned (.int .i64 (ttI ts)) ∧ Below w.heap.size w w' := by
  have c1 := debtsOf_any A c ts w h hs hl
  cases hv : tvB ts with
  | false =>
    have e : ttI ts = -1 := by unfold ttI; rw [hv]; rfl
    rw [e]
    have d1 := c1.mono fun e w' h => deb_no hv h
    clear hv c1 e
    go_enter Try.func40, Try.ntmps40
    go_wp2_with (go_at_call 70; refine d1.mono ?_; rintro e w1 ⟨A1, k1, n1, rfl, hb1⟩)
    go_ret
    exact ⟨rfl, hb1⟩
  | true =>
    have e : ttI ts = tot ts := by unfold ttI; rw [hv]; rfl
    rw [e]
    have d1 := c1.mono fun e w' h => deb_yes hv h
    have h12 := (tv_yes hv).1
    clear hv c1 h hs e
    go_enter Try.func40, Try.ntmps40
    go_wp2_with fail
    refine d1.mono ?_
    rintro e w1 ⟨A1, k1, rfl, hdi, hb1⟩
    have HD := Lib.hid (OR.rd hdi)
    clear hdi
    go_wp2
    go_loopw [5, 7, 17] (fun s _ i wr => ∃ k : Nat, k ≤ ts.length ∧ i = .int .i64 k ∧ s = .int .i64 (tot (ts.take k)) ∧ Below w1.heap.size w1 wr) (fun _ _ i _ => ts.length - (intOf i).toNat)
    case atStart => exact ⟨0, by omega, rfl, rfl, Below.refl _ _⟩
    case round =>
      obtain ⟨k, hk, rfl, rfl, hb⟩ := hrel
      by_cases hlt : k < ts.length
      · obtain ⟨b, off, rfl, hbb, t0, t1, t2⟩ := DR.at_ (RC.below HD.out hb (Nat.le_refl _)) hlt
        have hbd := tot_bd (ts.take k)
        have hwb := wt_bd (tx ts k)
        have hlk : ((ts.take k).length : Int) ≤ 12 := by rw [List.length_take]; omega
        have hnext := Lib.hid (show tot (ts.take (k + 1)) = tot (ts.take k) + wt (tx ts k) by rw [tx_take ts hlt, tot_snoc])
        generalize wt (tx ts k) = x at *
        generalize tot (ts.take k) = p at *
        go_wp2_with fail
        go_roundw
        case rel => exact ⟨k + 1, by omega, by go_num, by rw [hnext.out], hb.alloc hb.size _⟩
        case measure => simp [intOf] <;> omega
      · have HE := Lib.hid (show k = ts.length by omega)
        go_wp2_with fail
        go_ret
        exact ⟨ret_int (by rw [HE.out, List.take_of_length_le (Nat.le_refl _)]), below_then2 hb1 hb⟩

end Go.Proofs.Ytahlflennmdckaa
