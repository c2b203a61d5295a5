/- The walks of the root by pairs of digits: pairsOf, rootDigits, RootOf, RootNear, RootPairs of the program, RootPairs of the reference, and of three laws. No condition. -/
import Derived.Test.YtomojiipgabhfaaDig
import Derived.Test.YtomojiipgabhfaaSRt
import Derived.Test.YtomojiipgabhfaaInts
namespace Go.Proofs.Ytomojiipgabhfaa
open Go.RowKit
set_option linter.unusedVariables false

set_option maxHeartbeats 400000 in
theorem pairsOf_any (n : Int) (w : World) (h1 : 0 ≤ n) (h2 : n ≤ 1000000000) :
    Calls Try.prog 41 #[.int .i64 n] w (RetInts w (pairs n)) := by
  have HP := Lib.hid (show pairs n = pu 6 (n / 100) [n % 100] from rfl)
  go_enter Try.func41, Try.ntmps41
  go_wp2_with fail
  go_loopw [0, 3] (fun m v wr => ∃ (f : Nat) (x : Int) (acc : List Int) (A : Option Addr) (c : Nat), 0 ≤ x ∧ x ≤ 1000000000 ∧ f + acc.length ≤ 7 ∧ 0 < acc.length ∧ x < 100 ^ f ∧ m = .int .i64 x ∧ v = .slice A acc.length c ∧ IR wr w.heap.size A c acc ∧ Below w.heap.size w wr ∧ Hid (pairs n = pu f x acc)) (fun m _ _ => (intOf m).toNat)
  case atStart =>
    refine ⟨6, n / 100, [n % 100], _, _, by omega, by omega, by simp, by simp, ?_, rfl, rfl, ?_, ?_, HP⟩
    · have : (100 : Int) ^ 6 = 1000000000000 := by decide
      omega
    · exact World.ownsRow_lit w #[.int .i64 (n % 100)] 1 (Nat.le_refl _) (by simp [maxLen]) rfl
    · exact (Below.refl _ _).alloc (Nat.le_refl _) _
  case round =>
    obtain ⟨f, x, acc, A, c, hx0, hx1, hf, hacc, hxf, rfl, rfl, hown, hb, HI⟩ := hrel
    by_cases hpos : 0 < x
    · rcases f with _ | f
      · simp at hxf; omega
      · have HX := Lib.hid hxf
        clear hxf
        go_wp2_with (at_builtin; refine wpList_cons rfl _ _ rfl w.heap.size A c acc _ rfl rfl hown hacc _ rfl (by simp) (by omega) hb.size ?_; intro A' c' w1 hown1 hb1)
        go_roundw
        case rel => exact ⟨f, x / 100, x % 100 :: acc, A', c', by omega, by omega, by simp; omega, by simp, by have := HX.out; rw [Int.pow_succ] at this; omega, rfl, rfl, hown1, hb.trans (hb1.mono hb.size), HI.out.trans (pu_step _ _ _ hpos)⟩
        case measure => simp [intOf] <;> omega
    · obtain rfl : x = 0 := by omega
      go_wp2_with fail
      go_ret
      have := HI.out
      rw [pu_stop _ _ _ (by omega)] at this
      rw [this]
      exact ⟨A, c, rfl, hown, hb⟩

/-- what the root's digits are: of the pairs of n. -/
def rds (n : Int) : List Int := (rdAll (pairs n)).2.2
def rrem (n : Int) : Int := (rdAll (pairs n)).2.1

theorem ir_empty (w : World) : IR (w.alloc (.cells #[] 3)) w.heap.size (some ⟨w.heap.size, 0, none⟩) 0 [] :=
  World.ownsRow_lit w #[] 0 (Nat.le_refl _) (by simp [maxLen]) rfl
theorem step_val (s : Int × Int × List Int) (p : Int) : rdStep s p = (s.1 * 10 + dg s.1 (s.2.1 * 100 + p), s.2.1 * 100 + p - (20 * s.1 + dg s.1 (s.2.1 * 100 + p)) * dg s.1 (s.2.1 * 100 + p), s.2.2 ++ [dg s.1 (s.2.1 * 100 + p)]) := rfl
theorem dmul_bd {a d : Int} (a0 : 0 ≤ a) (a1 : a ≤ 1000000) (d0 : 0 ≤ d) (d1 : d ≤ 9) : 0 ≤ (20 * a + d) * d ∧ (20 * a + d) * d ≤ 180000081 := by
  have h := Int.mul_le_mul (show 20 * a + d ≤ 20000009 by omega) d1 d0 (by omega)
  exact ⟨Int.mul_nonneg (by omega) d0, by omega⟩
/-- the root and the rest stay small. -/
theorem rd_small {v : Int} {s : Int × Int × List Int} {n : Nat} (h : RdOk v s n) (hv : v ≤ 1000000000) : s.1 ≤ 31622 ∧ s.2.1 ≤ 63244 := by
  have h1 := h.v
  have h2 := h.q0
  have h3 := h.q1
  have h4 := rt_step h.r0 (show s.1 * s.1 ≤ v by omega) hv
  exact ⟨h4, by omega⟩
theorem valP_nn (xs : List Int) (h : okP xs) : 0 ≤ valP xs := by
  induction xs with
  | nil => simp [valP]
  | cons x xs ih =>
    rw [valP_cons]
    have := ih fun y hy => h y (by simp [hy])
    have h2 := Int.mul_nonneg (h x (by simp)).1 (show (0 : Int) ≤ 100 ^ xs.length from Int.pow_nonneg (by omega))
    omega
theorem valP_take (xs : List Int) (h : okP xs) (k : Nat) : valP (xs.take k) ≤ valP xs := by
  have h1 := foldl100 (xs.drop k) (valP (xs.take k))
  have h2 : valP xs = (xs.drop k).foldl (fun v x => v * 100 + x) (valP (xs.take k)) := by
    rw [valP, valP, ← List.foldl_append, List.take_append_drop]
  have h3 := valP_nn (xs.take k) fun y hy => h y (List.mem_of_mem_take hy)
  have h4 := valP_nn (xs.drop k) fun y hy => h y (List.mem_of_mem_drop hy)
  have h5 : (1 : Int) ≤ 100 ^ (xs.drop k).length := by have := Int.pow_pos (m := (xs.drop k).length) (show (0 : Int) < 100 by omega); omega
  have h6 := Int.mul_le_mul_of_nonneg_left h5 h3
  omega

set_option maxHeartbeats 2000000 in
theorem rootDigits_any (n : Int) (w : World) (h1 : 0 ≤ n) (h2 : n ≤ 1000000000) :
    Calls Try.prog 32 #[.int .i64 n] w fun e w' => ∃ A c, e = .returned (.tuple #[.slice A (rds n).length c, .int .i64 (rrem n)]) ∧ IR w' w.heap.size A c (rds n) ∧ Below w.heap.size w w' := by
  obtain ⟨p1, p2, p3, p4⟩ := pairs_val n h1 h2
  have HV := Lib.hid p1
  have HT := Lib.hid (rdOk_take (pairs n) p2)
  have HVT := Lib.hid (valP_take (pairs n) p2)
  have HRD := Lib.hid (show rds n = (rdAll (pairs n)).2.2 from rfl)
  have HRM := Lib.hid (show rrem n = (rdAll (pairs n)).2.1 from rfl)
  have HOK := Lib.hid p2
  clear p1 p2
  go_enter Try.func32, Try.ntmps32
  go_wp2_with fail
  refine (pairsOf_any n _ h1 h2).mono ?_
  rintro e w1 ⟨Ap, cp, rfl, hop, hbp⟩
  generalize pairs n = ps at *
  have hz1 : w.heap.size + 1 ≤ w1.heap.size := by have := hbp.size; simpa using this
  have hd0 : IR w1 w.heap.size (some ⟨w.heap.size, 0, none⟩) 0 [] := (ir_empty w).below hbp (Nat.le_refl _)
  have hb0 : Below w.heap.size w w1 := ((Below.refl _ _).alloc (Nat.le_refl _) _).trans (hbp.mono (by simp))
  have hsp := hop.span
  simp only [World.size_alloc] at hop hsp
  go_wp2_with fail
  go_loopw [4, 5, 6, 14] (fun v r q i wr => ∃ (k : Nat) (a b : Int) (ds : List Int) (A : Option Addr) (c : Nat), k ≤ ps.length ∧ i = .int .i64 k ∧ Hid ((a, b, ds) = rdAll (ps.take k)) ∧ r = .int .i64 a ∧ q = .int .i64 b ∧ v = .slice A k c ∧
    IR wr w.heap.size A c ds ∧ Outs A (w.heap.size + 1) w1.heap.size ∧ IR wr (w.heap.size + 1) Ap cp ps ∧ w1.heap.size ≤ wr.heap.size ∧ Below w.heap.size w wr) (fun _ _ _ i _ => ps.length - (intOf i).toNat)
  case atStart =>
    refine ⟨0, 0, 0, [], _, _, Nat.zero_le _, rfl, rfl, rfl, rfl, rfl, hd0, ?_, hop, Nat.le_refl _, hb0⟩
    intro g hg
    simp at hg
    omega
  case round =>
    obtain ⟨k, a, q, ds, A, c, hk, rfl, HS, rfl, rfl, rfl, hown, hout, hpp, hsz, hb⟩ := hrel
    have hok := HT.out k hk
    rw [← HS.out] at hok
    have hsm := rd_small hok (by have := HVT.out k; have := HV.out; omega)
    obtain ⟨a0, q0, -, -, hlen, -, -⟩ := hok
    have HL : Hid (ds.length = k) := hlen
    have hds : ds.length ≤ 7 := by have : ds.length = k := hlen; omega
    simp only at a0 q0 hsm
    obtain ⟨a1, q1⟩ := hsm
    clear hlen
    by_cases hlt : k < ps.length
    · obtain ⟨g, rfl, hg0, hgl, -, -, hcell, -⟩ := hpp.form (by omega)
      have hc := hcell k hlt
      have hspg := hsp g rfl
      clear hsp
      have hp : 0 ≤ ix ps k ∧ ix ps k ≤ 99 := HOK.out _ (by rw [ix_eq ps hlt]; exact List.getElem_mem _)
      have hn : rdAll (ps.take (k + 1)) = (a * 10 + dg a (q * 100 + ix ps k), q * 100 + ix ps k - (20 * a + dg a (q * 100 + ix ps k)) * dg a (q * 100 + ix ps k), ds ++ [dg a (q * 100 + ix ps k)]) := by
        rw [take_snoc ps hlt, rdAll_snoc, ← HS.out]; rfl
      have HN := Lib.hid hn
      clear hn
      generalize ix ps k = p at *
      obtain ⟨p0, p1⟩ := hp
      clear hcell
      go_wp2_with fail
      go_loop [9] (fun x => ∃ m : Nat, m ≤ 9 ∧ x = .int .i64 m ∧ Hid (dg a (q * 100 + p) = dgF m a (q * 100 + p))) (fun x => (intOf x).toNat)
      case atStart => exact ⟨9, by omega, rfl, rfl⟩
      case round =>
        obtain ⟨m, hm, rfl, HM⟩ := hrel
        obtain ⟨b1, b2⟩ := dmul_bd (a := a) (d := (m : Int)) a0 (by omega) (by omega) (by omega)
        by_cases hc : (20 * a + (m : Int)) * (m : Int) ≤ q * 100 + p
        · have HD := Lib.hid (HM.out.trans (dgF_stop m a _ (by omega) hc))
          rw [HD.out] at HN
          go_wp2_with (at_builtin; refine wpList_push rfl _ _ rfl w.heap.size A c ds _ HL.out.symm rfl hown _ rfl (by simp) (by omega) hb.size ?_; intro A' c' w2 hown2 hg2 hb2 hout2)
          go_roundw
          case rel =>
            refine ⟨k + 1, a * 10 + (m : Int), q * 100 + p - (20 * a + (m : Int)) * (m : Int), ds ++ [(m : Int)], A', c', by omega, by go_num, HN.out.symm, rfl, rfl, by rw [HL.out], hown2, hout2 _ _ hsz hout, ?_, Nat.le_trans hsz hg2.size, hb.trans hb2⟩
            refine hpp.grown' hg2 fun g' e e' => ?_
            have h3 := hout g' (by rw [e'])
            simp at e
            omega
          case measure => simp [intOf] <;> omega
        · rcases m with _ | m
          · simp at hc; omega
          · have HM' := Lib.hid (HM.out.trans (dgF_down m a (q * 100 + p) (by simpa using hc)))
            have em : ((m + 1 : Nat) : Int) = (m : Int) + 1 := by omega
            rw [em] at b1 b2 hc
            rw [em]
            clear em
            go_wp2_with fail
            go_round
            case rel => exact ⟨m, by omega, int_eq (by omega), HM'⟩
            case measure => simp [intOf] <;> omega
    · have HE := Lib.hid (show ps.take k = ps by rw [List.take_of_length_le (by omega)])
      rw [HE.out] at HS
      go_wp2_with fail
      go_ret2
      refine ⟨A, c, ?_, ?_, hb⟩
      · rw [HRD.out, HRM.out, ← HS.out]
        have := HL.out
        simp [this]
      · rw [HRD.out, ← HS.out]
        exact hown

theorem rds_is (n : Int) (h1 : 0 ≤ n) (h2 : n ≤ 1000000000) : IsRt n (dval (rds n)) ∧ rrem n = n - dval (rds n) * dval (rds n) ∧ (rds n).length ≤ 7 ∧ ∀ x ∈ rds n, 0 ≤ x ∧ x ≤ 9 := by
  obtain ⟨p1, p2, p3, p4⟩ := pairs_val n h1 h2
  have h := rdOk_take (pairs n) p2 (pairs n).length (Nat.le_refl _)
  rw [List.take_length, p1] at h
  obtain ⟨r0, q0, hv, q1, hl, hd, hds⟩ := h
  have e : dval (rds n) = (rdAll (pairs n)).1 := hd
  rw [e]
  have e2 : rrem n = (rdAll (pairs n)).2.1 := rfl
  have k := sq_succ (rdAll (pairs n)).1
  refine ⟨⟨r0, rt_step r0 (by omega) h2, by omega, by omega⟩, by omega, ?_, hds⟩
  have : (rds n).length = (pairs n).length := hl
  omega
/-- the digits' value grows with each digit and stays below the root. -/
theorem dval_take (xs : List Int) (h : ∀ x ∈ xs, 0 ≤ x ∧ x ≤ 9) (k : Nat) : 0 ≤ dval (xs.take k) ∧ dval (xs.take k) ≤ 10 ^ k - 1 := by
  induction k with
  | zero => simp [dval]
  | succ k ih =>
    by_cases hk : k < xs.length
    · rw [take_snoc xs hk, dval_snoc, Int.pow_succ]
      have := h (ix xs k) (by rw [ix_eq xs hk]; exact List.getElem_mem _)
      omega
    · rw [List.take_of_length_le (by omega)]
      rw [List.take_of_length_le (by omega)] at ih
      have h1 : (1 : Int) ≤ 10 ^ k := by have := Int.pow_pos (m := k) (show (0 : Int) < 10 by omega); omega
      rw [Int.pow_succ]
      omega
theorem ten_le {k : Nat} (hk : k ≤ 7) : (10 : Int) ^ k ≤ 10000000 := by
  have h : k = 0 ∨ k = 1 ∨ k = 2 ∨ k = 3 ∨ k = 4 ∨ k = 5 ∨ k = 6 ∨ k = 7 := by omega
  rcases h with h | h | h | h | h | h | h | h <;> subst h <;> decide

/-- the root, the remainder, true; memory may have been made. -/
def RetRtB (n : Int) (w : World) (e : Ending) (w' : World) : Prop := ∃ r : Int, IsRt n r ∧ e = .returned (.tuple #[.int .i64 r, .int .i64 (n - r * r), .bool true]) ∧ Below w.heap.size w w'

set_option maxHeartbeats 400000 in
theorem iRootOf_no (n : Int) (w : World) (h : n < 0 ∨ 1000000000 < n) :
    Calls Try.prog 11 #[.int .i64 n] w fun e w' => e = .returned (.tuple #[.int .i64 0, .int .i64 0, .bool false]) ∧ w = w' := by
  go_enter Try.func11, Try.ntmps11
  go_wp2_with fail
  refine (hasRoot_no _ _ h).mono ?_
  rintro e w' ⟨rfl, rfl⟩
  go_wp2_with fail
  go_ret3
  exact ⟨rfl, rfl⟩
set_option maxHeartbeats 1000000 in
theorem iRootOf_yes (n : Int) (w : World) (h1 : 0 ≤ n) (h2 : n ≤ 1000000000) :
    Calls Try.prog 11 #[.int .i64 n] w (RetRtB n w) := by
  obtain ⟨hr1, hr2, hr3, hr4⟩ := rds_is n h1 h2
  have HR1 := Lib.hid hr1
  have HR2 := Lib.hid hr2
  have HDT := Lib.hid (dval_take (rds n) hr4)
  have HR4 := Lib.hid hr4
  clear hr1 hr2 hr4
  go_enter Try.func11, Try.ntmps11
  go_wp2_with fail
  refine (hasRoot_yes _ _ h1 h2).mono ?_
  rintro e w' ⟨rfl, rfl⟩
  go_wp2_with fail
  refine (rootDigits_any n _ h1 h2).mono ?_
  rintro e w1 ⟨A, c, rfl, hown, hb⟩
  generalize rds n = ds at *
  generalize rrem n = rm at *
  go_wp2_with fail
  go_loop [5, 20] (fun r i => ∃ k : Nat, k ≤ ds.length ∧ i = .int .i64 k ∧ r = .int .i64 (dval (ds.take k))) (fun _ i => ds.length - (intOf i).toNat)
  case atStart => exact ⟨0, Nat.zero_le _, rfl, rfl⟩
  case round =>
    obtain ⟨k, hk, rfl, rfl⟩ := hrel
    obtain ⟨v0, v1⟩ := HDT.out k
    have hten := ten_le (k := k) (by omega)
    have hv2 : dval (ds.take k) ≤ 10000000 := by omega
    clear v1 hten
    by_cases hlt : k < ds.length
    · obtain ⟨g, rfl, -, -, -, -, hcell, -⟩ := hown.form (by omega)
      have hc := hcell k hlt
      have HS := Lib.hid (show dval (ds.take (k + 1)) = dval (ds.take k) * 10 + ix ds k by rw [take_snoc ds hlt, dval_snoc])
      obtain ⟨x0, x1⟩ := HR4.out (ix ds k) (by rw [ix_eq ds hlt]; exact List.getElem_mem _)
      clear hcell
      go_wp2_with fail
      go_round
      case rel => exact ⟨k + 1, by omega, by go_num, int_eq HS.out.symm⟩
      case measure => simp [intOf] <;> omega
    · have HE := Lib.hid (show ds.take k = ds by rw [List.take_of_length_le (by omega)])
      go_wp2_with fail
      go_ret3
      refine ⟨dval ds, HR1.out, ?_, hb⟩
      rw [HE.out, ← HR2.out]
      rfl


end Go.Proofs.Ytomojiipgabhfaa
