/- The walk of sameTallies; the law FnMerge. -/
import Derived.Test.YtahlflennmdckaaTalZ
import Derived.Test.YtahlflennmdckaaTalX
namespace Go.Proofs.Ytahlflennmdckaa
open Go.RowKit Go.PlainAid
set_option linter.unusedVariables false
set_option linter.unusedSimpArgs false

set_option maxHeartbeats 1000000 in
theorem sameTallies_yes (A C : Option Addr) (c d : Nat) (ts : List Tal) (w : World) (h : TR w w.heap.size A ts) (h' : TR w w.heap.size C ts) (hl : ts.length ≤ 1048576) :
    Calls Try.prog 45 #[.slice A ts.length c, .slice C ts.length d] w fun e w' => e = .returned (.bool true) ∧ ∃ n, w' = w.drewN n := by
  have HT := Lib.hid h
  have HU := Lib.hid h'
  clear h h'
  go_enter Try.func45, Try.ntmps45
  go_wp2
  go_loopw [5] (fun i wr => ∃ k : Nat, k ≤ ts.length ∧ i = .int .i64 k ∧ ∃ n, wr = w.drewN n) (fun i _ => ts.length - (intOf i).toNat)
  case atStart => exact ⟨0, Nat.zero_le _, rfl, 0, rfl⟩
  case round =>
    obtain ⟨k, hk, rfl, n, rfl⟩ := hrel
    by_cases hlt : k < ts.length
    · obtain ⟨b, off, rfl, hbb, t0, t1, t2, t3⟩ := TR.at_ HT.out hlt
      obtain ⟨b', off', rfl, hbb', u0, u1, u2, u3⟩ := TR.at_ HU.out hlt
      generalize (tx ts k) = T at *
      obtain ⟨d, c', s, f⟩ := T
      simp only at t0 t1 t2 t3 u0 u1 u2 u3
      have j1 : (0 : Int) ≤ (k : Int) := by omega
      have j2 : (k : Int) < (ts.length : Int) := by omega
      go_wp2
      go_quiet (fail)
      go_wp2
      go_roundw
      case rel => exact ⟨k + 1, by omega, by go_num, _, rfl⟩
      case measure => simp [intOf] <;> omega
    · have HE := Lib.hid (show k = ts.length by omega)
      go_wp2
      go_ret
      exact ⟨rfl, n, rfl⟩

set_option maxRecDepth 100000 in
set_option maxHeartbeats 3000000 in
theorem walkFnMerge (a : Option Addr) (len cap : Nat) (zs : List Int) (w : World) (hs : Sl .u8 w a len cap zs) :
    Calls Try.prog 13 #[.slice a len cap] w fun e w' => e = .returned (.bool true) ∧ Below w.heap.size w w' := by
  have HS := Lib.hid hs
  obtain ⟨-, hlc, hcm, -, -⟩ := hs
  unfold maxLen at hcm
  by_cases hbig : len ≤ 1048576
  case neg =>
    have hbig' : decide (1048576 < len) = true := by simp; omega
    go_enter Try.func13, Try.ntmps13
    go_wp2_with fail
    go_ret
    exact ⟨rfl, Below.refl _ _⟩
  go_enter Try.func13, Try.ntmps13
  go_wp2_with fail
  refine (drawTalliesMerge a len cap zs _ HS.out).mono ?_
  rintro e w1 ⟨ts, A, c, hsh, rfl, o1, hb1⟩
  have HO := Lib.hid o1
  have h7 : ts.length ≤ 7 := hsh.1
  have HT := Lib.hid hsh.ts
  clear hsh o1 hlc hcm hbig
  obtain ⟨V, hV⟩ : ∃ V, meB ts = V := ⟨_, rfl⟩
  obtain ⟨rs, hrs⟩ : ∃ rs, meR ts = rs := ⟨_, rfl⟩
  have hrl : rs.length ≤ 30 := by
    rw [← hrs]; unfold meR; split
    · have := mrg_len ts (rows 5)
      have e : (rows 5).length = 10 := by decide
      omega
    · simp
  have d1 := iTalliesMerge A c ts w1 (OR.rd HO.out) HT.out (by omega)
  have d2 := fun w2 (hb : Below w1.heap.size w1 w2) => sTalliesMerge A c ts w2 (rc_to' (OR.rd HO.out) hb) HT.out (by omega)
  rw [hV, hrs] at d1 d2
  have HV := Lib.hid hV
  have HB := Lib.hid hrs
  clear hV hrs
  have hVV : (V != V) = false := by cases V <;> rfl
  go_wp2_with fail
  refine d1.mono ?_
  rintro e w2 ⟨A2, c2, rfl, o2, hb2⟩
  have O2 := Lib.hid o2
  have T2 := below_then2 hb1 hb2
  clear o2 d1
  go_wp2_with fail
  refine (d2 _ hb2).mono ?_
  rintro e w3 ⟨A3, c3, rfl, o3, hb3⟩
  have O3 := Lib.hid o3
  have T3 := below_then2 T2 hb3
  have R2 := Lib.hid (rc_to' (OR.rd O2.out) hb3)
  clear o3 d2
  have sm := fun n => sameTallies_yes A2 A3 c2 c3 rs (w3.drewN n) R2.out (OR.rd O3.out) (by omega)
  have sm0 := sm 0
  rw [World.drewN_zero] at sm0
  cases V with
  | false =>
    clear hVV
    go_wp2_with fail
    refine sm0.mono ?_
    rintro e w4 ⟨rfl, n4, rfl⟩
    go_wp2_with fail
    refine (sm n4).mono ?_
    rintro e w5 ⟨rfl, n5, rfl⟩
    go_wp2_with fail
    go_ret
    exact ⟨rfl, below_drewN T3 (n4 + n5)⟩
  | true =>
    clear hVV
    go_wp2_with fail
    refine sm0.mono ?_
    rintro e w4 ⟨rfl, n4, rfl⟩
    clear sm sm0
    have T4 := below_drewN T3 n4
    obtain ⟨m1, m2, m3, m4, m5, m6, m7⟩ := me_law HV.out
    rw [HB.out] at m2 m3 m4 m5 m6 m7
    have R1 := Lib.hid (rc_to' (rc_to' (OR.rd HO.out) hb2) hb3)
    have HRS : Hid (TS rs) := fun t ht => by
      have := (tok_yes ((tv_yes m2).2 t ht)).2.1
      obtain ⟨st, hst⟩ := nv_some this
      have h4 := (nrun0 hst).2.2.2
      obtain ⟨o1, o2, o3, o4⟩ := (nrun0 hst).1
      simp only [nlen] at h4
      rw [size_list] at h4
      omega
    have HM := Lib.hid (And.intro m1 (And.intro m2 (And.intro m5 m7)))
    have e1 : ttI ts = tot ts := by unfold ttI; rw [m1]; rfl
    have e2 : ttI rs = tot rs := by unfold ttI; rw [m2]; rfl
    have b1 := iTalliesBalance A c ts (w3.drewN n4) R1.out HT.out (by omega)
    rw [tb_yes m1, m1] at b1
    go_wp2_with fail
    refine b1.mono ?_
    rintro e w5 ⟨A5, c5, rfl, o5, hb5⟩
    have O5 := Lib.hid o5
    have R25 := Lib.hid (rc_to' (show RC (w3.drewN n4) (w3.drewN n4).heap.size _ _ from R2.out) hb5)
    have b2 := iTalliesBalance A2 c2 rs w5 R25.out HRS.out (by omega)
    rw [tb_yes m2, m2, m5] at b2
    clear o5 b1
    go_wp2_with fail
    refine b2.mono ?_
    rintro e w6 ⟨A6, c6, rfl, o6, hb6⟩
    have O6 := Lib.hid o6
    have R26 := Lib.hid (rc_to' R25.out hb6)
    have b3 := iTalliesMerge A2 c2 rs w6 R26.out HRS.out (by omega)
    rw [m4, m3] at b3
    clear o6 b2
    go_wp2_with fail
    refine b3.mono ?_
    rintro e w7 ⟨A7, c7, rfl, o7, hb7⟩
    have O7 := Lib.hid o7
    have R27 := Lib.hid (rc_to' R26.out hb7)
    have R57 := Lib.hid (rd_to' (rd_to' (IR.rd O5.out) hb6) hb7)
    have R67 := Lib.hid (rd_to' (IR.rd O6.out) hb7)
    have R17 := Lib.hid (rc_to' (rc_to' (rc_to' (show RC (w3.drewN n4) (w3.drewN n4).heap.size _ _ from R1.out) hb5) hb6) hb7)
    have T7 := below_then2 (below_then2 (below_then2 T4 hb5) hb6) hb7
    clear o7 b3 m1 m2 m3 m4 m5 m7
    go_wp2_with fail
    go_loopw [14, 15, 16, 17] (fun i _ _ _ wr => ∃ k n : Nat, k ≤ rs.length ∧ i = .int .i64 k ∧ wr = w7.drewN n) (fun i _ _ _ _ => rs.length - (intOf i).toNat)
    case atStart => exact ⟨0, 0, by omega, rfl, rfl⟩
    case round =>
      obtain ⟨k, n, hk, rfl, hw⟩ := hrel
      subst hw
      by_cases hlt : k < rs.length
      · obtain ⟨b, off, rfl, hbb, t0, t1, t2, t3⟩ := TR.at_ R27.out hlt
        have HT3 := Lib.hid t3
        clear t2 t3
        go_wp2_with fail
        go_loopw [15, 16, 17] (fun j _ _ wr => ∃ j' m : Nat, j' ≤ k ∧ j = .int .i64 j' ∧ wr = w7.drewN m) (fun j _ _ _ => k - (intOf j).toNat)
        case atStart => exact ⟨0, n, by omega, rfl, rfl⟩
        case round =>
          obtain ⟨j', m, hj', rfl, hw⟩ := hrel
          subst hw
          by_cases hlj : j' < k
          · obtain ⟨b', off', eb, hbb', u0, u1, u2, u3⟩ := TR.at_ R27.out (show j' < rs.length by omega)
            injection eb with eb
            injection eb with eb1 eb2
            subst eb1 eb2
            clear u2 u3
            have hap := apart_at HM.out.2.2.2 hlj hlt
            unfold Apart at hap
            have j1 : (0 : Int) ≤ (k : Int) := by omega
            have j2 : (k : Int) < (rs.length : Int) := by omega
            have j3 : (0 : Int) ≤ (j' : Int) := by omega
            have j4 : (j' : Int) < (rs.length : Int) := by omega
            obtain ⟨x1, hx1⟩ : ∃ x, (tx rs k).d = x := ⟨_, rfl⟩
            obtain ⟨x2, hx2⟩ : ∃ x, (tx rs k).c = x := ⟨_, rfl⟩
            obtain ⟨x3, hx3⟩ : ∃ x, (tx rs j').d = x := ⟨_, rfl⟩
            obtain ⟨x4, hx4⟩ : ∃ x, (tx rs j').c = x := ⟨_, rfl⟩
            rw [hx1, hx2, hx3, hx4] at hap
            rw [hx1] at t0
            rw [hx2] at t1
            rw [hx3] at u0
            rw [hx4] at u1
            clear hx1 hx2 hx3 hx4
            obtain ⟨hap1, hap2⟩ := hap
            have HAP := Lib.hid (And.intro hap1 hap2)
            clear hap1 hap2
            by_cases q1 : x1 = x3
            · have q1' : (x1 == x3) = true := by simp [q1]
              have q2' : (x2 == x4) = false := beq_eq_false_iff_ne.2 (fun e => HAP.out.1 ⟨q1, e⟩)
              clear q1
              by_cases q3 : x1 = x4
              · have q3' : (x1 == x4) = true := by simp [q3]
                have q4' : (x2 == x3) = false := beq_eq_false_iff_ne.2 (fun e => HAP.out.2 ⟨q3, e⟩)
                clear q3
                go_wp2_with fail
                go_quiet (fail)
                go_wp2_with fail
                go_quiet (fail)
                go_wp2_with fail
                go_roundw
                case rel => exact ⟨j' + 1, _, by omega, by go_num, rfl⟩
                case measure => simp [intOf] <;> omega
              · have q3' : (x1 == x4) = false := beq_eq_false_iff_ne.2 q3
                clear q3
                go_wp2_with fail
                go_quiet (fail)
                go_wp2_with fail
                go_quiet (fail)
                go_wp2_with fail
                go_roundw
                case rel => exact ⟨j' + 1, _, by omega, by go_num, rfl⟩
                case measure => simp [intOf] <;> omega
            · have q1' : (x1 == x3) = false := beq_eq_false_iff_ne.2 q1
              clear q1
              by_cases q3 : x1 = x4
              · have q3' : (x1 == x4) = true := by simp [q3]
                have q4' : (x2 == x3) = false := beq_eq_false_iff_ne.2 (fun e => HAP.out.2 ⟨q3, e⟩)
                clear q3
                go_wp2_with fail
                go_quiet (fail)
                go_wp2_with fail
                go_quiet (fail)
                go_wp2_with fail
                go_roundw
                case rel => exact ⟨j' + 1, _, by omega, by go_num, rfl⟩
                case measure => simp [intOf] <;> omega
              · have q3' : (x1 == x4) = false := beq_eq_false_iff_ne.2 q3
                clear q3
                go_wp2_with fail
                go_quiet (fail)
                go_wp2_with fail
                go_quiet (fail)
                go_wp2_with fail
                go_roundw
                case rel => exact ⟨j' + 1, _, by omega, by go_num, rfl⟩
                case measure => simp [intOf] <;> omega
          · go_wp2_with fail
            go_roundw
            case rel => exact ⟨k + 1, m, by omega, by go_num, rfl⟩
            case measure => simp [intOf] <;> omega
      · have sI := sameInts_yes A5 A6 c5 c6 (bals ts) (w7.drewN n) R57.out R67.out (by rw [bals_len]; omega)
        have sT := fun m => sameTallies_yes A7 A2 c7 c2 rs (w7.drewN m) (OR.rd O7.out) R27.out (by omega)
        go_wp2_with fail
        refine sI.mono ?_
        rintro e w8 ⟨rfl, n8, rfl⟩
        go_wp2_with fail
        refine (sT (n + n8)).mono ?_
        rintro e w9 ⟨rfl, n9, rfl⟩
        go_wp2_with fail
        have T9 := below_drewN T7 (n + n8 + n9)
        have t1 := iTalliesTotal A2 c2 rs (w7.drewN (n + n8 + n9)) R27.out HRS.out (by omega)
        rw [e2] at t1
        refine t1.mono ?_
        rintro e w10 ⟨rfl, hb10⟩
        go_wp2_with fail
        have t2 := iTalliesTotal A c ts w10 (rc_to' (show RC (w7.drewN (n + n8 + n9)) (w7.drewN (n + n8 + n9)).heap.size _ _ from R17.out) hb10) HT.out (by omega)
        rw [e1] at t2
        refine t2.mono ?_
        rintro e w11 ⟨rfl, hb11⟩
        have hle : decide (tot rs ≤ tot ts) = true := by simpa using m6
        go_wp2_with fail
        go_ret
        exact ⟨rfl, below_then2 (below_then2 T9 hb10) hb11⟩

end Go.Proofs.Ytahlflennmdckaa
