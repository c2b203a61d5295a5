/- The law FnPay. -/
import Derived.Test.YtahlflennmdckaaTalPb
namespace Go.Proofs.Ytahlflennmdckaa
open Go.RowKit Go.PlainAid
set_option linter.unusedVariables false
set_option linter.unusedSimpArgs false

theorem py_split {ts : List Tal} {k : Nat} (hk : k < ts.length) : ts = ts.take k ++ (tx ts k :: ts.drop (k + 1)) := by
  rw [tx_eq ts hk, ← List.drop_eq_getElem_cons hk, List.take_append_drop]
theorem py_bal {ts : List Tal} {k : Nat} (hk : k < ts.length) (p : Int) : balP ts p - balP (ts.take k ++ ts.drop (k + 1)) p = cr p (tx ts k) := by
  have e : balP ts p = balP (ts.take k ++ (tx ts k :: ts.drop (k + 1))) p := by rw [← py_split hk]
  rw [e, balP_append, balP_append]
  simp only [balP]
  omega
theorem py_tot {ts : List Tal} {k : Nat} (hk : k < ts.length) : tot (ts.take k ++ ts.drop (k + 1)) = tot ts - wt (tx ts k) := by
  have e : tot ts = tot (ts.take k ++ (tx ts k :: ts.drop (k + 1))) := by rw [← py_split hk]
  rw [e, tot_append, tot_append]
  simp only [tot]
  omega
theorem py_tv {ts : List Tal} {k : Nat} (h : tvB ts = true) : tvB (ts.take k ++ ts.drop (k + 1)) = true := by
  refine tv_mk ?_ ?_
  · have := (tv_yes h).1
    rw [List.length_append, List.length_take, List.length_drop]; omega
  · intro t ht
    rcases List.mem_append.1 ht with ht | ht
    · exact (tv_yes h).2 t (List.mem_of_mem_take ht)
    · exact (tv_yes h).2 t (List.mem_of_mem_drop ht)

set_option maxRecDepth 100000 in
set_option maxHeartbeats 3000000 in
theorem walkFnPay (a : Option Addr) (len cap : Nat) (zs : List Int) (w : World) (hs : Sl .u8 w a len cap zs) :
    Calls Try.prog 11 #[.slice a len cap] w fun e w' => e = .returned (.bool true) ∧ Below w.heap.size w w' := by
  have HS := Lib.hid hs
  obtain ⟨-, hlc, hcm, -, -⟩ := hs
  unfold maxLen at hcm
  by_cases hbig : len ≤ 1048576
  case neg =>
    have hbig' : decide (1048576 < len) = true := by simp; omega
    go_enter Try.func11, Try.ntmps11
    go_wp2_with fail
    go_ret
    exact ⟨rfl, Below.refl _ _⟩
  go_enter Try.func11, Try.ntmps11
  go_wp2_with fail
  refine (drawTalliesPay a len cap zs _ HS.out).mono ?_
  rintro e w1 ⟨ts, A, c, k, hsh, hk0, hk7, rfl, o1, hb1⟩
  have HO := Lib.hid o1
  have h7 : ts.length ≤ 7 := hsh.1
  have HT := Lib.hid hsh.ts
  have hcap := OR.len o1
  unfold maxLen at hcap
  have hAA : ts ≠ [] → ∃ g, A = some ⟨g, 0, none⟩ := fun hne => by
    rcases TI.where_ o1 with ⟨_, h, _⟩ | h
    · exact absurd h hne
    · exact h
  clear hsh o1 hlc hcm hbig
  obtain ⟨V, hV⟩ : ∃ V, pyB ts k = V := ⟨_, rfl⟩
  obtain ⟨rs, hrs⟩ : ∃ rs, pyR ts k = rs := ⟨_, rfl⟩
  have hrl : rs.length ≤ 20 := by
    rw [← hrs]; unfold pyR; split
    · rw [List.length_append, List.length_take, List.length_drop]; omega
    · simp
  have d1 := iTalliesPay A c ts k w1 (OR.rd HO.out) HT.out (by omega)
  have d2 := fun w2 (hb : Below w1.heap.size w1 w2) => sTalliesPay A c ts k w2 (rc_to' (OR.rd HO.out) hb) HT.out (by omega) (by omega) hAA
  rw [hV, hrs] at d1 d2
  have HV := Lib.hid hV
  have HB := Lib.hid hrs
  have HA := Lib.hid hAA
  clear hV hrs hAA
  have hVV : (V != V) = false := by cases V <;> rfl
  go_wp2_with fail
  refine d1.mono ?_
  rintro e w2 ⟨A2, c2, rfl, o2, hb2⟩
  have O2 := Lib.hid o2
  have T2 := below_then2 hb1 hb2
  clear o2 d1
  go_wp2_with fail
  refine (d2 _ hb2).mono ?_
  rintro e w3 ⟨A3, c3, rfl, o3, hb3⟩
  have O3 := Lib.hid o3
  have T3 := below_then2 T2 hb3
  have R2 := Lib.hid (rc_to' (OR.rd O2.out) hb3)
  clear o3 d2
  have sm := fun n => sameTallies_yes A2 A3 c2 c3 rs (w3.drewN n) R2.out (OR.rd O3.out) (by omega)
  have sm0 := sm 0
  rw [World.drewN_zero] at sm0
  cases V with
  | false =>
    clear hVV
    go_wp2_with fail
    refine sm0.mono ?_
    rintro e w4 ⟨rfl, n4, rfl⟩
    go_wp2_with fail
    refine (sm n4).mono ?_
    rintro e w5 ⟨rfl, n5, rfl⟩
    go_wp2_with fail
    go_ret
    exact ⟨rfl, below_drewN T3 (n4 + n5)⟩
  | true =>
    clear hVV
    go_wp2_with fail
    refine sm0.mono ?_
    rintro e w4 ⟨rfl, n4, rfl⟩
    clear sm sm0
    have T4 := below_drewN T3 n4
    have hpy := HV.out
    unfold pyB at hpy
    simp at hpy
    obtain ⟨m1, hk0', hkl⟩ := hpy
    obtain ⟨k, rfl⟩ := Int.eq_ofNat_of_zero_le hk0'
    have hkn : k < ts.length := by omega
    obtain ⟨g, rfl⟩ := HA.out (fun e => by rw [e] at hkn; simp at hkn)
    have hrs : rs = ts.take k ++ ts.drop (k + 1) := by rw [← HB.out]; exact (py_yes m1 hkn).2
    have m2 : tvB rs = true := by rw [hrs]; exact py_tv m1
    have htok := (tv_yes m1).2 _ (tx_mem ts hkn)
    obtain ⟨dd, cc, e1, e2, hd, hc, hdc, x0, x9⟩ := tok_dc htok
    have hbal := fun p => py_bal hkn p
    have htot := py_tot hkn
    rw [← hrs] at hbal htot
    have hlr : rs.length + 1 = ts.length := by rw [hrs, List.length_append, List.length_take, List.length_drop]; omega
    have HRS : Hid (TS rs) := fun t ht => by
      rw [hrs] at ht
      rcases List.mem_append.1 ht with ht | ht
      · exact HT.out t (List.mem_of_mem_take ht)
      · exact HT.out t (List.mem_of_mem_drop ht)
    have R1 := Lib.hid (rc_to' (rc_to' (OR.rd HO.out) hb2) hb3)
    have e3 : ttI ts = tot ts := by unfold ttI; rw [m1]; rfl
    have e4 : ttI rs = tot rs := by unfold ttI; rw [m2]; rfl
    have b1 := iTalliesBalance (some ⟨g, 0, none⟩) c ts (w3.drewN n4) R1.out HT.out (by omega)
    rw [tb_yes m1, m1] at b1
    have hwt := fun w => iNotchesWorth (tx ts k).s w (HT.out.at_ hkn)
    have e5 : wo (tx ts k).s.data.toList = wt (tx ts k) := rfl
    rw [e5] at hwt
    unfold cr at hbal
    rw [e1, e2] at hbal
    have HBAL := Lib.hid hbal
    have HE12 := Lib.hid (And.intro e1 e2)
    have HM := Lib.hid (And.intro m1 m2)
    have tb1 := tot_bd ts
    have j0 : (0 : Int) ≤ (k : Int) := by omega
    have j1 : (k : Int) < (ts.length : Int) := by omega
    clear hrs hbal e1 e2 m1 htok e5 hk0 hk7 hk0' hkl
    go_wp2_with fail
    refine b1.mono ?_
    rintro e w5 ⟨A5, c5, rfl, o5, hb5⟩
    have O5 := Lib.hid o5
    have R25 := Lib.hid (rc_to' (show RC (w3.drewN n4) (w3.drewN n4).heap.size _ _ from R2.out) hb5)
    have R15 := Lib.hid (rc_to' (show RC (w3.drewN n4) (w3.drewN n4).heap.size _ _ from R1.out) hb5)
    have b2 := iTalliesBalance A2 c2 rs w5 R25.out HRS.out (by omega)
    rw [tb_yes m2, m2] at b2
    clear o5 b1 m2
    go_wp2_with fail
    refine b2.mono ?_
    rintro e w6 ⟨A6, c6, rfl, o6, hb6⟩
    have O6 := Lib.hid o6
    have R26 := Lib.hid (rc_to' R25.out hb6)
    have R16 := Lib.hid (rc_to' R15.out hb6)
    clear o6 b2
    obtain ⟨bq, offq, eb, hbq, t0, t1, t2, t3⟩ := TR.at_ R16.out hkn
    injection eb with eb
    injection eb with eb1 eb2
    subst eb1 eb2
    rw [HE12.out.1] at t0
    rw [HE12.out.2] at t1
    rw [Nat.zero_add] at t0 t1 t2
    have HT3 := Lib.hid t3
    clear t3
    go_wp2_with fail
    refine (hwt _).mono ?_
    rintro e w7 ⟨rfl, hb7⟩
    have T7 := below_then2 (below_then2 (below_then2 T4 hb5) hb6) hb7
    have u0 : w7.cell? ⟨g, k * 4, none⟩ = some (.int .i64 (dd : Int)) := (hb7.cell (p := ⟨g, k * 4, none⟩) hbq).trans t0
    have u1 : w7.cell? ⟨g, k * 4 + 1, none⟩ = some (.int .i64 (cc : Int)) := (hb7.cell (p := ⟨g, k * 4 + 1, none⟩) hbq).trans t1
    have R27 := Lib.hid (rc_to' R26.out hb7)
    have R17 := Lib.hid (rc_to' R16.out hb7)
    obtain ⟨g5, rfl, _, _, _, _, hcA, _⟩ := IR.form ((IR.below O5.out hb6 (Nat.le_refl _)).below hb7 (Nat.le_refl _)) (by rw [bals_len]; omega)
    obtain ⟨g6, rfl, _, _, _, _, hcB, _⟩ := IR.form (IR.below O6.out hb7 (Nat.le_refl _)) (by rw [bals_len]; omega)
    have HC := Lib.hid (And.intro hcA hcB)
    clear hcA hcB t0 t1 t2 hwt
    have lb1 : (bals ts).length = 5 := rfl
    have lb2 : (bals rs).length = 5 := rfl
    have HX := Lib.hid (show wt (tx ts k) = wt (tx ts k) from rfl)
    obtain ⟨x, hx⟩ : ∃ x, wt (tx ts k) = x := ⟨_, rfl⟩
    rw [hx] at x0 x9 htot
    have HBX : Hid (∀ p, balP ts p - balP rs p = (if (cc : Int) = p then x else 0) - (if (dd : Int) = p then x else 0)) := fun p => by have := HBAL.out p; rw [hx] at this; exact this
    rw [hx]
    clear HBAL HX hx
    have s0 : IntKind.i64.wrap (0 - x) = -x := by rw [Int.zero_sub]; exact IntWalk.i64_in _ (by omega)
    have s0' : IntKind.i64.wrap (-x) = -x := IntWalk.i64_in _ (by omega)
    have HTOT := Lib.hid htot
    clear htot
    go_wp2_with fail
    go_loopw [14, 15] (fun i _ wr => ∃ k' n : Nat, k' ≤ 5 ∧ i = .int .i64 k' ∧ wr = w7.drewN n) (fun i _ _ => 5 - (intOf i).toNat)
    case atStart => exact ⟨0, 0, by omega, rfl, rfl⟩
    case round =>
      obtain ⟨k', n, hk', rfl, hw⟩ := hrel
      subst hw
      by_cases hlt : k' < 5
      · have y1 := HC.out.1 k' hlt
        have y2 := HC.out.2 k' hlt
        rw [bals_at _ hlt] at y1 y2
        have hsp := HBX.out k'
        have bd1 := balP_bd k' ts
        have bd2 := balP_bd k' rs
        generalize balP ts k' = X at *
        generalize balP rs k' = Y at *
        have q0 : (0 : Int) ≤ (k' : Int) := by omega
        have q1 : (k' : Int) < 5 := by omega
        have q2 : decide ((k' : Int) < 5) = true := by simp; omega
        by_cases hkc : k' = cc
        · subst hkc
          have hdk : ¬ (dd : Int) = (k' : Int) := by omega
          rw [if_pos rfl, if_neg hdk, Int.sub_zero] at hsp
          have z1 : ((k' : Int) == (dd : Int)) = false := beq_eq_false_iff_ne.2 (by omega)
          have z2 : ¬ k' = dd := fun e => hdc e.symm
          have z3 : IntKind.i64.wrap (X - Y) = x := by rw [hsp]; exact IntWalk.i64_in _ (by omega)
          clear hdk
          go_wp2_with fail
          go_quiet (fail)
          go_wp2_with fail
          go_roundw
          case rel => exact ⟨k' + 1, _, by omega, by go_num, rfl⟩
          case measure => simp [intOf] <;> omega
        · by_cases hkd : k' = dd
          · subst hkd
            rw [if_neg (by omega), if_pos rfl, Int.zero_sub] at hsp
            have z1 : ((k' : Int) == (cc : Int)) = false := beq_eq_false_iff_ne.2 (by omega)
            have z2 : ¬ k' = cc := hkc
            have z3 : IntKind.i64.wrap (X - Y) = -x := by rw [hsp]; exact IntWalk.i64_in _ (by omega)
            clear hkc
            go_wp2_with fail
            go_quiet (fail)
            go_wp2_with fail
            go_roundw
            case rel => exact ⟨k' + 1, _, by omega, by go_num, rfl⟩
            case measure => simp [intOf] <;> omega
          · rw [if_neg (by omega), if_neg (by omega), Int.sub_zero] at hsp
            have z1 : ((k' : Int) == (cc : Int)) = false := beq_eq_false_iff_ne.2 (by omega)
            have z2 : ((k' : Int) == (dd : Int)) = false := beq_eq_false_iff_ne.2 (by omega)
            have z3 : IntKind.i64.wrap (X - Y) = 0 := by rw [hsp]; rfl
            go_wp2_with fail
            go_quiet (fail)
            go_wp2_with fail
            go_roundw
            case rel => exact ⟨k' + 1, _, by omega, by go_num, rfl⟩
            case measure => simp [intOf] <;> omega
      · have q2 : decide ((k' : Int) < 5) = false := by simp; omega
        have q3 : ((rs.length : Int) == (ts.length : Int) - 1) = true := by simp; omega
        have q4 : IntKind.i64.wrap (tot ts - x) = tot rs := by rw [HTOT.out]; exact IntWalk.i64_in _ (by omega)
        have c1 := iTalliesTotal A2 c2 rs (w7.drewN n) R27.out HRS.out (by omega)
        rw [e4] at c1
        go_wp2_with fail
        refine c1.mono ?_
        rintro e w10 ⟨rfl, hb10⟩
        have c2 := iTalliesTotal (some ⟨g, 0, none⟩) c ts w10 (rc_to' (show RC (w7.drewN n) (w7.drewN n).heap.size _ _ from R17.out) hb10) HT.out (by omega)
        rw [e3] at c2
        go_wp2_with fail
        refine c2.mono ?_
        rintro e w11 ⟨rfl, hb11⟩
        go_wp2_with fail
        go_ret
        exact ⟨rfl, below_then2 (below_then2 (below_drewN T7 n) hb10) hb11⟩

end Go.Proofs.Ytahlflennmdckaa
