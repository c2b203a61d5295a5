/- The walks of the root by pairs of digits: pairsOf, rootDigits, RootOf, RootNear, RootPairs of the program, RootPairs of the reference, and of three laws. No condition. -/
import Derived.Test.YtcekgegheffobaaDig
import Derived.Test.YtcekgegheffobaaSRt
import Derived.Test.YtcekgegheffobaaInts
namespace Go.Proofs.Ytcekgegheffobaa
open Go.RowKit
set_option linter.unusedVariables false

set_option maxHeartbeats 400000 in
theorem pairsOf_any (n : Int) (w : World) (h1 : 0 ≤ n) (h2 : n ≤ 1000000000) :
    Calls Try.prog 54 #[.int .i64 n] w (RetInts w (pairs n)) := by
  have HP := Lib.hid (show pairs n = pu 6 (n / 100) [n % 100] from rfl)
  go_enter Try.func54, Try.ntmps54
  go_wp2_with fail
  go_loopw [0, 3] (fun m v wr => ∃ (f : Nat) (x : Int) (acc : List Int) (A : Option Addr) (c : Nat), 0 ≤ x ∧ x ≤ 1000000000 ∧ f + acc.length ≤ 7 ∧ 0 < acc.length ∧ x < 100 ^ f ∧ m = .int .i64 x ∧ v = .slice A acc.length c ∧ IR wr w.heap.size A c acc ∧ Below w.heap.size w wr ∧ Hid (pairs n = pu f x acc)) (fun m _ _ => (intOf m).toNat)
  case atStart =>
    refine ⟨6, n / 100, [n % 100], _, _, by omega, by omega, by simp, by simp, ?_, rfl, rfl, ?_, ?_, HP⟩
    · have : (100 : Int) ^ 6 = 1000000000000 := by decide
      omega
    · exact World.ownsRow_lit w #[.int .i64 (n % 100)] 1 (Nat.le_refl _) (by simp [maxLen]) rfl
    · exact (Below.refl _ _).alloc (Nat.le_refl _) _
  case round =>
    obtain ⟨f, x, acc, A, c, hx0, hx1, hf, hacc, hxf, rfl, rfl, hown, hb, HI⟩ := hrel
    by_cases hpos : 0 < x
    · rcases f with _ | f
      · simp at hxf; omega
      · have HX := Lib.hid hxf
        clear hxf
        go_wp2_with (at_builtin; refine wpList_cons rfl _ _ rfl w.heap.size A c acc _ rfl rfl hown hacc rfl (by omega) hb.size ?_; intro A' c' w1 hown1 hb1)
        go_roundw
        case rel => exact ⟨f, x / 100, x % 100 :: acc, A', c', by omega, by omega, by simp; omega, by simp, by have := HX.out; rw [Int.pow_succ] at this; omega, rfl, rfl, hown1, hb.trans (hb1.mono hb.size), HI.out.trans (pu_step _ _ _ hpos)⟩
        case measure => simp [intOf] <;> omega
    · obtain rfl : x = 0 := by omega
      go_wp2_with fail
      go_ret
      have := HI.out
      rw [pu_stop _ _ _ (by omega)] at this
      rw [this]
      exact ⟨A, c, rfl, hown, hb⟩

/-- what the root's digits are: of the pairs of n. -/
def rds (n : Int) : List Int := (rdAll (pairs n)).2.2
def rrem (n : Int) : Int := (rdAll (pairs n)).2.1

theorem ir_empty (w : World) : IR (w.alloc (.cells #[] 3)) w.heap.size (some ⟨w.heap.size, 0, none⟩) 0 [] :=
  World.ownsRow_lit w #[] 0 (Nat.le_refl _) (by simp [maxLen]) rfl
theorem step_val (s : Int × Int × List Int) (p : Int) : rdStep s p = (s.1 * 10 + dg s.1 (s.2.1 * 100 + p), s.2.1 * 100 + p - (20 * s.1 + dg s.1 (s.2.1 * 100 + p)) * dg s.1 (s.2.1 * 100 + p), s.2.2 ++ [dg s.1 (s.2.1 * 100 + p)]) := rfl
theorem dmul_bd {a d : Int} (a0 : 0 ≤ a) (a1 : a ≤ 1000000) (d0 : 0 ≤ d) (d1 : d ≤ 9) : 0 ≤ (20 * a + d) * d ∧ (20 * a + d) * d ≤ 180000081 := by
  have h := Int.mul_le_mul (show 20 * a + d ≤ 20000009 by omega) d1 d0 (by omega)
  exact ⟨Int.mul_nonneg (by omega) d0, by omega⟩
/-- the root and the rest stay small. -/
theorem rd_small {v : Int} {s : Int × Int × List Int} {n : Nat} (h : RdOk v s n) (hv : v ≤ 1000000000) : s.1 ≤ 31622 ∧ s.2.1 ≤ 63244 := by
  have h1 := h.v
  have h2 := h.q0
  have h3 := h.q1
  have h4 := rt_step h.r0 (show s.1 * s.1 ≤ v by omega) hv
  exact ⟨h4, by omega⟩
theorem valP_nn (xs : List Int) (h : okP xs) : 0 ≤ valP xs := by
  induction xs with
  | nil => simp [valP]
  | cons x xs ih =>
    rw [valP_cons]
    have := ih fun y hy => h y (by simp [hy])
    have h2 := Int.mul_nonneg (h x (by simp)).1 (show (0 : Int) ≤ 100 ^ xs.length from Int.pow_nonneg (by omega))
    omega
theorem valP_take (xs : List Int) (h : okP xs) (k : Nat) : valP (xs.take k) ≤ valP xs := by
  have h1 := foldl100 (xs.drop k) (valP (xs.take k))
  have h2 : valP xs = (xs.drop k).foldl (fun v x => v * 100 + x) (valP (xs.take k)) := by
    rw [valP, valP, ← List.foldl_append, List.take_append_drop]
  have h3 := valP_nn (xs.take k) fun y hy => h y (List.mem_of_mem_take hy)
  have h4 := valP_nn (xs.drop k) fun y hy => h y (List.mem_of_mem_drop hy)
  have h5 : (1 : Int) ≤ 100 ^ (xs.drop k).length := by have := Int.pow_pos (m := (xs.drop k).length) (show (0 : Int) < 100 by omega); omega
  have h6 := Int.mul_le_mul_of_nonneg_left h5 h3
  omega

set_option maxHeartbeats 2000000 in
theorem rootDigits_any (n : Int) (w : World) (h1 : 0 ≤ n) (h2 : n ≤ 1000000000) :
    Calls Try.prog 44 #[.int .i64 n] w fun e w' => ∃ A c, e = .returned (.tuple #[.slice A (rds n).length c, .int .i64 (rrem n)]) ∧ IR w' w.heap.size A c (rds n) ∧ Below w.heap.size w w' := by
  obtain ⟨p1, p2, p3, p4⟩ := pairs_val n h1 h2
  have HV := Lib.hid p1
  have HT := Lib.hid (rdOk_take (pairs n) p2)
  have HVT := Lib.hid (valP_take (pairs n) p2)
  have HRD := Lib.hid (show rds n = (rdAll (pairs n)).2.2 from rfl)
  have HRM := Lib.hid (show rrem n = (rdAll (pairs n)).2.1 from rfl)
  have HOK := Lib.hid p2
  clear p1 p2
  go_enter Try.func44, Try.ntmps44
  go_wp2_with fail
  refine (pairsOf_any n _ h1 h2).mono ?_
  rintro e w1 ⟨Ap, cp, rfl, hop, hbp⟩
  generalize pairs n = ps at *
  have hz1 : w.heap.size + 1 ≤ w1.heap.size := by have := hbp.size; simpa using this
  have hd0 : IR w1 w.heap.size (some ⟨w.heap.size, 0, none⟩) 0 [] := (ir_empty w).below hbp (Nat.le_refl _)
  have hb0 : Below w.heap.size w w1 := ((Below.refl _ _).alloc (Nat.le_refl _) _).trans (hbp.mono (by simp))
  have hsp := hop.span
  simp only [World.size_alloc] at hop hsp
  go_wp2_with fail
  go_loopw [4, 5, 6, 14] (fun v r q i wr => ∃ (k : Nat) (a b : Int) (ds : List Int) (A : Option Addr) (c : Nat), k ≤ ps.length ∧ i = .int .i64 k ∧ Hid ((a, b, ds) = rdAll (ps.take k)) ∧ r = .int .i64 a ∧ q = .int .i64 b ∧ v = .slice A k c ∧
    IR wr w.heap.size A c ds ∧ Outs A (w.heap.size + 1) w1.heap.size ∧ IR wr (w.heap.size + 1) Ap cp ps ∧ w1.heap.size ≤ wr.heap.size ∧ Below w.heap.size w wr) (fun _ _ _ i _ => ps.length - (intOf i).toNat)
  case atStart =>
    refine ⟨0, 0, 0, [], _, _, Nat.zero_le _, rfl, rfl, rfl, rfl, rfl, hd0, ?_, hop, Nat.le_refl _, hb0⟩
    intro g hg
    simp at hg
    omega
  case round =>
    obtain ⟨k, a, q, ds, A, c, hk, rfl, HS, rfl, rfl, rfl, hown, hout, hpp, hsz, hb⟩ := hrel
    have hok := HT.out k hk
    rw [← HS.out] at hok
    have hsm := rd_small hok (by have := HVT.out k; have := HV.out; omega)
    obtain ⟨a0, q0, -, -, hlen, -, -⟩ := hok
    have HL : Hid (ds.length = k) := hlen
    have hds : ds.length ≤ 7 := by have : ds.length = k := hlen; omega
    simp only at a0 q0 hsm
    obtain ⟨a1, q1⟩ := hsm
    clear hlen
    by_cases hlt : k < ps.length
    · obtain ⟨g, rfl, hg0, hgl, -, -, hcell, -⟩ := hpp.form (by omega)
      have hc := hcell k hlt
      have hspg := hsp g rfl
      clear hsp
      have hp : 0 ≤ ix ps k ∧ ix ps k ≤ 99 := HOK.out _ (by rw [ix_eq ps hlt]; exact List.getElem_mem _)
      have hn : rdAll (ps.take (k + 1)) = (a * 10 + dg a (q * 100 + ix ps k), q * 100 + ix ps k - (20 * a + dg a (q * 100 + ix ps k)) * dg a (q * 100 + ix ps k), ds ++ [dg a (q * 100 + ix ps k)]) := by
        rw [take_snoc ps hlt, rdAll_snoc, ← HS.out]; rfl
      have HN := Lib.hid hn
      clear hn
      generalize ix ps k = p at *
      obtain ⟨p0, p1⟩ := hp
      clear hcell
      go_wp2_with fail
      go_loop [9] (fun x => ∃ m : Nat, m ≤ 9 ∧ x = .int .i64 m ∧ Hid (dg a (q * 100 + p) = dgF m a (q * 100 + p))) (fun x => (intOf x).toNat)
      case atStart => exact ⟨9, by omega, rfl, rfl⟩
      case round =>
        obtain ⟨m, hm, rfl, HM⟩ := hrel
        obtain ⟨b1, b2⟩ := dmul_bd (a := a) (d := (m : Int)) a0 (by omega) (by omega) (by omega)
        by_cases hc : (20 * a + (m : Int)) * (m : Int) ≤ q * 100 + p
        · have HD := Lib.hid (HM.out.trans (dgF_stop m a _ (by omega) hc))
          rw [HD.out] at HN
          go_wp2_with (at_builtin; refine wpList_push rfl _ _ rfl w.heap.size A c ds _ HL.out.symm rfl hown rfl (by omega) hb.size ?_; intro A' c' w2 hown2 hg2 hb2 hout2)
          go_roundw
          case rel =>
            refine ⟨k + 1, a * 10 + (m : Int), q * 100 + p - (20 * a + (m : Int)) * (m : Int), ds ++ [(m : Int)], A', c', by omega, by go_num, HN.out.symm, rfl, rfl, by rw [HL.out], hown2, hout2 _ _ hsz hout, ?_, Nat.le_trans hsz hg2.size, hb.trans hb2⟩
            refine hpp.grown' hg2 fun g' e e' => ?_
            have h3 := hout g' (by rw [e'])
            simp at e
            omega
          case measure => simp [intOf] <;> omega
        · rcases m with _ | m
          · simp at hc; omega
          · have HM' := Lib.hid (HM.out.trans (dgF_down m a (q * 100 + p) (by simpa using hc)))
            have em : ((m + 1 : Nat) : Int) = (m : Int) + 1 := by omega
            rw [em] at b1 b2 hc
            rw [em]
            clear em
            go_wp2_with fail
            go_round
            case rel => exact ⟨m, by omega, int_eq (by omega), HM'⟩
            case measure => simp [intOf] <;> omega
    · have HE := Lib.hid (show ps.take k = ps by rw [List.take_of_length_le (by omega)])
      rw [HE.out] at HS
      go_wp2_with fail
      go_ret2
      refine ⟨A, c, ?_, ?_, hb⟩
      · rw [HRD.out, HRM.out, ← HS.out]
        have := HL.out
        simp [this]
      · rw [HRD.out, ← HS.out]
        exact hown

theorem rds_is (n : Int) (h1 : 0 ≤ n) (h2 : n ≤ 1000000000) : IsRt n (dval (rds n)) ∧ rrem n = n - dval (rds n) * dval (rds n) ∧ (rds n).length ≤ 7 ∧ ∀ x ∈ rds n, 0 ≤ x ∧ x ≤ 9 := by
  obtain ⟨p1, p2, p3, p4⟩ := pairs_val n h1 h2
  have h := rdOk_take (pairs n) p2 (pairs n).length (Nat.le_refl _)
  rw [List.take_length, p1] at h
  obtain ⟨r0, q0, hv, q1, hl, hd, hds⟩ := h
  have e : dval (rds n) = (rdAll (pairs n)).1 := hd
  rw [e]
  have e2 : rrem n = (rdAll (pairs n)).2.1 := rfl
  have k := sq_succ (rdAll (pairs n)).1
  refine ⟨⟨r0, rt_step r0 (by omega) h2, by omega, by omega⟩, by omega, ?_, hds⟩
  have : (rds n).length = (pairs n).length := hl
  omega
/-- the digits' value grows with each digit and stays below the root. -/
theorem dval_take (xs : List Int) (h : ∀ x ∈ xs, 0 ≤ x ∧ x ≤ 9) (k : Nat) : 0 ≤ dval (xs.take k) ∧ dval (xs.take k) ≤ 10 ^ k - 1 := by
  induction k with
  | zero => simp [dval]
  | succ k ih =>
    by_cases hk : k < xs.length
    · rw [take_snoc xs hk, dval_snoc, Int.pow_succ]
      have := h (ix xs k) (by rw [ix_eq xs hk]; exact List.getElem_mem _)
      omega
    · rw [List.take_of_length_le (by omega)]
      rw [List.take_of_length_le (by omega)] at ih
      have h1 : (1 : Int) ≤ 10 ^ k := by have := Int.pow_pos (m := k) (show (0 : Int) < 10 by omega); omega
      rw [Int.pow_succ]
      omega
theorem ten_le {k : Nat} (hk : k ≤ 7) : (10 : Int) ^ k ≤ 10000000 := by
  have h : k = 0 ∨ k = 1 ∨ k = 2 ∨ k = 3 ∨ k = 4 ∨ k = 5 ∨ k = 6 ∨ k = 7 := by omega
  rcases h with h | h | h | h | h | h | h | h <;> subst h <;> decide

/-- the root, the remainder, true; memory may have been made. -/
def RetRtB (n : Int) (w : World) (e : Ending) (w' : World) : Prop := ∃ r : Int, IsRt n r ∧ e = .returned (.tuple #[.int .i64 r, .int .i64 (n - r * r), .bool true]) ∧ Below w.heap.size w w'

set_option maxHeartbeats 400000 in
theorem iRootOf_no (n : Int) (w : World) (h : n < 0 ∨ 1000000000 < n) :
    Calls Try.prog 22 #[.int .i64 n] w fun e w' => e = .returned (.tuple #[.int .i64 0, .int .i64 0, .bool false]) ∧ w = w' := by
  go_enter Try.func22, Try.ntmps22
  go_wp2_with fail
  refine (hasRoot_no _ _ h).mono ?_
  rintro e w' ⟨rfl, rfl⟩
  go_wp2_with fail
  go_ret3
  exact ⟨rfl, rfl⟩
set_option maxHeartbeats 1000000 in
theorem iRootOf_yes (n : Int) (w : World) (h1 : 0 ≤ n) (h2 : n ≤ 1000000000) :
    Calls Try.prog 22 #[.int .i64 n] w (RetRtB n w) := by
  obtain ⟨hr1, hr2, hr3, hr4⟩ := rds_is n h1 h2
  have HR1 := Lib.hid hr1
  have HR2 := Lib.hid hr2
  have HDT := Lib.hid (dval_take (rds n) hr4)
  have HR4 := Lib.hid hr4
  clear hr1 hr2 hr4
  go_enter Try.func22, Try.ntmps22
  go_wp2_with fail
  refine (hasRoot_yes _ _ h1 h2).mono ?_
  rintro e w' ⟨rfl, rfl⟩
  go_wp2_with fail
  refine (rootDigits_any n _ h1 h2).mono ?_
  rintro e w1 ⟨A, c, rfl, hown, hb⟩
  generalize rds n = ds at *
  generalize rrem n = rm at *
  go_wp2_with fail
  go_loop [5, 20] (fun r i => ∃ k : Nat, k ≤ ds.length ∧ i = .int .i64 k ∧ r = .int .i64 (dval (ds.take k))) (fun _ i => ds.length - (intOf i).toNat)
  case atStart => exact ⟨0, Nat.zero_le _, rfl, rfl⟩
  case round =>
    obtain ⟨k, hk, rfl, rfl⟩ := hrel
    obtain ⟨v0, v1⟩ := HDT.out k
    have hten := ten_le (k := k) (by omega)
    have hv2 : dval (ds.take k) ≤ 10000000 := by omega
    clear v1 hten
    by_cases hlt : k < ds.length
    · obtain ⟨g, rfl, -, -, -, -, hcell, -⟩ := hown.form (by omega)
      have hc := hcell k hlt
      have HS := Lib.hid (show dval (ds.take (k + 1)) = dval (ds.take k) * 10 + ix ds k by rw [take_snoc ds hlt, dval_snoc])
      obtain ⟨x0, x1⟩ := HR4.out (ix ds k) (by rw [ix_eq ds hlt]; exact List.getElem_mem _)
      clear hcell
      go_wp2_with fail
      go_round
      case rel => exact ⟨k + 1, by omega, by go_num, int_eq HS.out.symm⟩
      case measure => simp [intOf] <;> omega
    · have HE := Lib.hid (show ds.take k = ds by rw [List.take_of_length_le (by omega)])
      go_wp2_with fail
      go_ret3
      refine ⟨dval ds, HR1.out, ?_, hb⟩
      rw [HE.out, ← HR2.out]
      rfl

set_option maxHeartbeats 400000 in
theorem iRootNear_no (n : Int) (w : World) (h : n < 0 ∨ 1000000000 < n) :
    Calls Try.prog 36 #[.int .i64 n] w fun e w' => e = .returned (.int .i64 (-1)) ∧ w = w' := by
  go_enter Try.func36, Try.ntmps36
  go_wp2_with fail
  refine (iRootOf_no _ _ h).mono ?_
  rintro e w' ⟨rfl, rfl⟩
  go_wp2_with fail
  go_ret
  exact ⟨rfl, rfl⟩
set_option maxHeartbeats 400000 in
theorem iRootNear_yes (n : Int) (w : World) (h1 : 0 ≤ n) (h2 : n ≤ 1000000000) :
    Calls Try.prog 36 #[.int .i64 n] w fun e w' => ∃ r, IsRt n r ∧ e = .returned (.int .i64 (if n - r * r > r then r + 1 else r)) ∧ Below w.heap.size w w' := by
  go_enter Try.func36, Try.ntmps36
  go_wp2_with fail
  refine (iRootOf_yes _ _ h1 h2).mono ?_
  rintro e w' ⟨r, hr, rfl, hb⟩
  have HR := Lib.hid hr
  obtain ⟨r0, r1, r2, -⟩ := hr
  have b1 := sq_nn r
  by_cases hc : r < n - r * r
  · go_wp2_with fail
    go_ret
    exact ⟨r, HR.out, ret_int (by rw [if_pos (by omega)]), hb⟩
  · go_wp2_with fail
    go_ret
    exact ⟨r, HR.out, ret_int (by rw [if_neg (by omega)]), hb⟩
/-- a new list of integers and a bool. -/
def RetIB (w : World) (zs : List Int) (b : Bool) (e : Ending) (w' : World) : Prop := ∃ A c, e = .returned (.tuple #[.slice A zs.length c, .bool b]) ∧ IR w' w.heap.size A c zs ∧ Below w.heap.size w w'
set_option maxHeartbeats 400000 in
theorem iRootPairs_no (n : Int) (w : World) (h : n < 0 ∨ 1000000000 < n) :
    Calls Try.prog 38 #[.int .i64 n] w (RetIB w [] false) := by
  go_enter Try.func38, Try.ntmps38
  go_wp2_with fail
  refine (hasRoot_no _ _ h).mono ?_
  rintro e w' ⟨rfl, rfl⟩
  go_wp2_with fail
  go_ret2
  exact ⟨_, _, rfl, IR.nil_ _ _, Below.refl _ _⟩
set_option maxHeartbeats 400000 in
theorem iRootPairs_yes (n : Int) (w : World) (h1 : 0 ≤ n) (h2 : n ≤ 1000000000) :
    Calls Try.prog 38 #[.int .i64 n] w (RetIB w (rds n) true) := by
  go_enter Try.func38, Try.ntmps38
  go_wp2_with fail
  refine (hasRoot_yes _ _ h1 h2).mono ?_
  rintro e w' ⟨rfl, rfl⟩
  go_wp2_with fail
  refine (rootDigits_any n _ h1 h2).mono ?_
  rintro e w1 ⟨A, c, rfl, hown, hb⟩
  go_wp2_with fail
  go_ret2
  exact ⟨A, c, rfl, hown, hb⟩
set_option maxHeartbeats 400000 in
theorem sRootPairs_no (n : Int) (w : World) (h : n < 0 ∨ 1000000000 < n) :
    Calls Try.prog 37 #[.int .i64 n] w (RetIB w [] false) := by
  go_enter Try.func37, Try.ntmps37
  go_wp2_with fail
  refine (l6In_no _ _ _ _ h).mono ?_
  rintro e w' ⟨rfl, rfl⟩
  go_wp2_with fail
  go_ret2
  exact ⟨_, _, rfl, ir_empty w, (Below.refl _ _).alloc (Nat.le_refl _) _⟩
set_option maxHeartbeats 2000000 in
theorem sRootPairs_yes (n : Int) (w : World) (h1 : 0 ≤ n) (h2 : n ≤ 1000000000) :
    Calls Try.prog 37 #[.int .i64 n] w (RetIB w (rds n) true) := by
  obtain ⟨p1, p2, p3, p4⟩ := pairs_val n h1 h2
  have HV := Lib.hid p1
  have HT := Lib.hid (rdOk_take (pairs n) p2)
  have HVT := Lib.hid (valP_take (pairs n) p2)
  have HRD := Lib.hid (show rds n = (rdAll (pairs n)).2.2 from rfl)
  have HOK := Lib.hid p2
  have HP := Lib.hid (show pairs n = pu 6 (n / 100) [n % 100] from rfl)
  clear p1 p2
  go_enter Try.func37, Try.ntmps37
  go_wp2_with fail
  refine (l6In_yes _ _ _ _ h1 h2).mono ?_
  rintro e w' ⟨rfl, rfl⟩
  have hd0 := ir_empty w
  have hb0 : Below w.heap.size w (w.alloc (.cells #[] 3)) := (Below.refl _ _).alloc (Nat.le_refl _) _
  have hz0 : (w.alloc (.cells #[] 3)).heap.size = w.heap.size + 1 := by simp
  have HZ0 := Lib.hid hz0
  clear hz0
  generalize hw0 : w.alloc (.cells #[] 3) = w1 at *
  clear hw0
  go_wp2_with fail
  go_loopw [0, 5] (fun m v wr => ∃ (f : Nat) (x : Int) (acc : List Int) (A : Option Addr) (c : Nat), 0 ≤ x ∧ x ≤ 1000000000 ∧ f + acc.length ≤ 7 ∧ 0 < acc.length ∧ x / 100 < 100 ^ f ∧ m = .int .i64 x ∧ v = .slice A acc.length c ∧ IR wr w1.heap.size A c acc ∧ Below w1.heap.size w1 wr ∧ Hid (pairs n = pu f (x / 100) acc)) (fun m _ _ => (intOf m).toNat)
  case atStart =>
    refine ⟨6, n, [n % 100], _, _, by omega, by omega, by simp, by simp, ?_, rfl, rfl, ?_, ?_, HP⟩
    · have : (100 : Int) ^ 6 = 1000000000000 := by decide
      omega
    · exact World.ownsRow_lit w1 #[.int .i64 (n % 100)] 1 (Nat.le_refl _) (by simp [maxLen]) rfl
    · exact (Below.refl _ _).alloc (Nat.le_refl _) _
  case round =>
    obtain ⟨f, x, acc, Ap, cp, hx0, hx1, hf, hacc, hxf, rfl, rfl, hop, hbp, HI⟩ := hrel
    by_cases hpos : 100 ≤ x
    · rcases f with _ | f
      · simp at hxf; omega
      · have HX := Lib.hid hxf
        clear hxf
        go_wp2_with (at_builtin; refine wpList_cons rfl _ _ rfl w1.heap.size Ap cp acc _ rfl rfl hop hacc rfl (by omega) hbp.size ?_; intro A' c' w2 hown1 hb1)
        go_roundw
        case rel => exact ⟨f, x / 100, x / 100 % 100 :: acc, A', c', by omega, by omega, by simp; omega, by simp, by have := HX.out; rw [Int.pow_succ] at this; omega, rfl, rfl, hown1, hbp.trans (hb1.mono hbp.size), HI.out.trans (pu_step _ _ _ (by omega))⟩
        case measure => simp [intOf] <;> omega
    · have HE := Lib.hid (HI.out.trans (pu_stop f (x / 100) acc (by omega)))
      clear HI hxf
      rw [HE.out] at HV HT HVT HRD HOK p3 p4
      clear HE HP hf
      generalize acc = ps at *
      obtain ⟨w3, rfl⟩ : ∃ w3 : World, w3 = wr := ⟨_, rfl⟩
      have hsp := hop.span
      have hd3 := hd0.below hbp (Nat.le_refl _)
      have hb3 := hb0.trans (hbp.mono hb0.size)
      have hz3 : w.heap.size + 1 ≤ w3.heap.size := by have := hbp.size; have := HZ0.out; omega
      go_wp2_with fail
      go_loopw [4, 6, 7, 8] (fun v r q i wr => ∃ (k : Nat) (a b : Int) (ds : List Int) (A : Option Addr) (c : Nat), k ≤ ps.length ∧ i = .int .i64 k ∧ Hid ((a, b, ds) = rdAll (ps.take k)) ∧ r = .int .i64 a ∧ q = .int .i64 b ∧ v = .slice A k c ∧
        IR wr w.heap.size A c ds ∧ Outs A w1.heap.size w3.heap.size ∧ IR wr w1.heap.size Ap cp ps ∧ w3.heap.size ≤ wr.heap.size ∧ Below w.heap.size w wr) (fun _ _ _ i _ => ps.length - (intOf i).toNat)
      case atStart =>
        refine ⟨0, 0, 0, [], _, _, Nat.zero_le _, rfl, rfl, rfl, rfl, rfl, hd3, ?_, hop, Nat.le_refl _, hb3⟩
        intro g hg
        simp at hg
        have := HZ0.out
        left; omega
      case round =>
        obtain ⟨k, a, q, ds, A, c, hk, rfl, HS, rfl, rfl, rfl, hown, hout, hpp, hsz, hb⟩ := hrel
        have hok := HT.out k hk
        rw [← HS.out] at hok
        have hsm := rd_small hok (by have := HVT.out k; have := HV.out; omega)
        obtain ⟨a0, q0, -, -, hlen, -, -⟩ := hok
        have HL : Hid (ds.length = k) := hlen
        have hds : ds.length ≤ 7 := by have : ds.length = k := hlen; omega
        simp only at a0 q0 hsm
        obtain ⟨a1, q1⟩ := hsm
        clear hlen
        by_cases hlt : k < ps.length
        · obtain ⟨g, rfl, hg0, hgl, -, -, hcell, -⟩ := hpp.form (by omega)
          have hc := hcell k hlt
          have hspg := hsp g rfl
          clear hsp
          have hp : 0 ≤ ix ps k ∧ ix ps k ≤ 99 := HOK.out _ (by rw [ix_eq ps hlt]; exact List.getElem_mem _)
          have hn : rdAll (ps.take (k + 1)) = (a * 10 + dg a (100 * q + ix ps k), 100 * q + ix ps k - (20 * a + dg a (100 * q + ix ps k)) * dg a (100 * q + ix ps k), ds ++ [dg a (100 * q + ix ps k)]) := by
            rw [take_snoc ps hlt, rdAll_snoc, ← HS.out, Int.mul_comm 100 q]; rfl
          have HN := Lib.hid hn
          clear hn
          generalize ix ps k = p at *
          obtain ⟨p0, p1⟩ := hp
          clear hcell
          go_wp2_with fail
          go_loop [9] (fun x => ∃ m : Nat, m ≤ 9 ∧ x = .int .i64 m ∧ Hid (dg a (100 * q + p) = dgF m a (100 * q + p))) (fun x => (intOf x).toNat)
          case atStart => exact ⟨9, by omega, rfl, rfl⟩
          case round =>
            obtain ⟨m, hm, rfl, HM⟩ := hrel
            obtain ⟨b1, b2⟩ := dmul_bd (a := a) (d := (m : Int)) a0 (by omega) (by omega) (by omega)
            by_cases hc : (20 * a + (m : Int)) * (m : Int) ≤ 100 * q + p
            · have HD := Lib.hid (HM.out.trans (dgF_stop m a _ (by omega) hc))
              rw [HD.out] at HN
              go_wp2_with (at_builtin; refine wpList_push rfl _ _ rfl w.heap.size A c ds _ HL.out.symm rfl hown rfl (by omega) hb.size ?_; intro A' c' w2 hown2 hg2 hb2 hout2)
              go_roundw
              case rel =>
                refine ⟨k + 1, a * 10 + (m : Int), 100 * q + p - (20 * a + (m : Int)) * (m : Int), ds ++ [(m : Int)], A', c', by omega, by go_num, HN.out.symm, int_eq (by omega), rfl, by rw [HL.out], hown2, hout2 _ _ hsz hout, ?_, Nat.le_trans hsz hg2.size, hb.trans hb2⟩
                refine hpp.grown' hg2 fun g' e e' => ?_
                have h3 := hout g' (by rw [e'])
                simp at e
                omega
              case measure => simp [intOf] <;> omega
            · rcases m with _ | m
              · simp at hc; omega
              · have HM' := Lib.hid (HM.out.trans (dgF_down m a (100 * q + p) (by simpa using hc)))
                have em : ((m + 1 : Nat) : Int) = (m : Int) + 1 := by omega
                rw [em] at b1 b2 hc
                rw [em]
                clear em
                go_wp2_with fail
                go_round
                case rel => exact ⟨m, by omega, int_eq (by omega), HM'⟩
                case measure => simp [intOf] <;> omega
        · have HE := Lib.hid (show ps.take k = ps by rw [List.take_of_length_le (by omega)])
          rw [HE.out] at HS
          go_wp2_with fail
          go_ret2
          refine ⟨A, c, ?_, ?_, hb⟩
          · rw [HRD.out, ← HS.out]
            have := HL.out
            simp [this]
          · rw [HRD.out, ← HS.out]
            exact hown

set_option maxHeartbeats 400000 in
theorem walkFnExactRootOf (a0 : Int) (w0 : (Lit.int .i64 a0).wf = true) (w : World) :
    Calls Try.prog 6 #[.int .i64 a0] w fun e w' => e = .returned (.bool true) ∧ Below w.heap.size w w' := by
  by_cases h : 0 ≤ a0 ∧ a0 ≤ 1000000000
  · obtain ⟨h1, h2⟩ := h
    go_enter Try.func6, Try.ntmps6
    go_wp2_with fail
    refine (sRootOf_yes a0 _ h1 h2).mono ?_
    rintro e w' ⟨r, hr, rfl, rfl⟩
    go_wp2_with fail
    refine (iRootOf_yes a0 _ h1 h2).mono ?_
    rintro e w1 ⟨s, hs, rfl, hb⟩
    obtain rfl := isRt_uniq hr hs
    go_wp2_with fail
    go_ret
    exact ⟨rfl, hb⟩
  · have h' : a0 < 0 ∨ 1000000000 < a0 := by omega
    go_enter Try.func6, Try.ntmps6
    go_wp2_with fail
    refine (sRootOf_no a0 _ h').mono ?_
    rintro e w' ⟨rfl, rfl⟩
    go_wp2_with fail
    refine (iRootOf_no a0 _ h').mono ?_
    rintro e w' ⟨rfl, rfl⟩
    go_wp2_with fail
    go_ret
    exact ⟨rfl, Below.refl _ _⟩

set_option maxHeartbeats 1000000 in
theorem walkFnExactRootPairs (a0 : Int) (w0 : (Lit.int .i64 a0).wf = true) (w : World) :
    Calls Try.prog 13 #[.int .i64 a0] w fun e w' => e = .returned (.bool true) ∧ Below w.heap.size w w' := by
  obtain ⟨zs, b, hzl, HI, HS⟩ : ∃ (zs : List Int) (b : Bool), zs.length ≤ 7 ∧ Hid (∀ W, Calls Try.prog 38 #[.int .i64 a0] W (RetIB W zs b)) ∧ Hid (∀ W, Calls Try.prog 37 #[.int .i64 a0] W (RetIB W zs b)) := by
    by_cases h : 0 ≤ a0 ∧ a0 ≤ 1000000000
    · exact ⟨rds a0, true, (rds_is a0 h.1 h.2).2.2.1, fun W => iRootPairs_yes a0 W h.1 h.2, fun W => sRootPairs_yes a0 W h.1 h.2⟩
    · exact ⟨[], false, by simp, fun W => iRootPairs_no a0 W (by omega), fun W => sRootPairs_no a0 W (by omega)⟩
  go_enter Try.func13, Try.ntmps13
  go_wp2_with fail
  refine (HS.out _).mono ?_
  rintro e w1 ⟨A1, c1, rfl, ho1, hb1⟩
  go_wp2_with fail
  refine (HI.out _).mono ?_
  rintro e w2 ⟨A2, c2, rfl, ho2, hb2⟩
  have ho1' := ho1.below hb2 (Nat.le_refl _)
  go_wp2_with fail
  refine (eqIntS_yes A2 A1 c2 c1 zs _ ho2.rd ho1'.rd (by omega)).mono ?_
  rintro e w' ⟨rfl, n1, rfl⟩
  go_wp2_with fail
  refine (markIntS_any w1.heap.size A2 c2 zs 1 _ (ho2.drewN n1) (by omega) (by omega) (by omega)).mono ?_
  rintro e w3 ⟨rfl, ho3, hg3⟩
  have ho1'' : IR w3 w.heap.size A1 c1 zs := IR.grown' (ho1'.drewN n1) hg3 (ho1.apart ho2 (Nat.le_refl _))
  have hb3 : Below w.heap.size w w3 := (below_drewN (hb1.trans (hb2.mono hb1.size)) n1).grown hg3 (by have := hb1.size; have := hb2.size; simp; omega) (fun k e => Nat.le_trans hb1.size (ho2.span k e).1)
  go_wp2_with fail
  refine (heldIntS_any A2 c2 zs.length 1 _ ho3.rd (by omega) (by omega) (by omega)).mono ?_
  rintro e w' ⟨rfl, rfl⟩
  go_wp2_with fail
  refine (HI.out _).mono ?_
  rintro e w4 ⟨A4, c4, rfl, ho4, hb4⟩
  have ho1''' := ho1''.below hb4 (Nat.le_refl _)
  have ho3' := ho3.below hb4 (Nat.le_refl _)
  go_wp2_with fail
  refine (eqIntS_yes A4 A1 c4 c1 zs _ ho4.rd ho1'''.rd (by omega)).mono ?_
  rintro e w' ⟨rfl, n4, rfl⟩
  go_wp2_with fail
  refine (heldIntS_any A2 c2 zs.length 1 _ (ho3'.drewN n4).rd (by omega) (by omega) (by omega)).mono ?_
  rintro e w' ⟨rfl, rfl⟩
  go_wp2_with fail
  go_ret
  exact ⟨rfl, below_drewN (hb3.trans (hb4.mono hb3.size)) _⟩

set_option maxHeartbeats 400000 in
theorem walkFnExactRootNear (a0 : Int) (w0 : (Lit.int .i64 a0).wf = true) (w : World) :
    Calls Try.prog 12 #[.int .i64 a0] w fun e w' => e = .returned (.bool true) ∧ Below w.heap.size w w' := by
  by_cases h : 0 ≤ a0 ∧ a0 ≤ 1000000000
  · obtain ⟨h1, h2⟩ := h
    go_enter Try.func12, Try.ntmps12
    go_wp2_with fail
    refine (sRootNear_yes a0 _ h1 h2).mono ?_
    rintro e w' ⟨m, ⟨r, hr, hm⟩, rfl, rfl⟩
    have HM := Lib.hid hm
    clear hm
    go_wp2_with fail
    refine (iRootNear_yes a0 _ h1 h2).mono ?_
    rintro e w1 ⟨s, hs, rfl, hb⟩
    obtain rfl := isRt_uniq hr hs
    rw [← HM.out]
    go_wp2_with fail
    go_ret
    exact ⟨rfl, hb⟩
  · have h' : a0 < 0 ∨ 1000000000 < a0 := by omega
    go_enter Try.func12, Try.ntmps12
    go_wp2_with fail
    refine (sRootNear_no a0 _ h').mono ?_
    rintro e w' ⟨rfl, rfl⟩
    go_wp2_with fail
    refine (iRootNear_no a0 _ h').mono ?_
    rintro e w' ⟨rfl, rfl⟩
    go_wp2_with fail
    go_ret
    exact ⟨rfl, Below.refl _ _⟩

end Go.Proofs.Ytcekgegheffobaa
