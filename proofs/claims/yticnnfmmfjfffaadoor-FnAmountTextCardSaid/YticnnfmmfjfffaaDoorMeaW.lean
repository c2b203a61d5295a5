/- The walks of the program's scales: scaleOf, least, proper. No condition but bounds on lengths. -/
import Derived.Test.YticnnfmmfjfffaaDoorMeaP
import Derived.Test.YticnnfmmfjfffaaDoorInts
import Derived.RegionTactic
namespace Go.Proofs.YticnnfmmfjfffaaDoor
open Go.RowKit
set_option linter.unusedVariables false

/-- what 'make(scale, n)' does. -/
theorem wpList_mkS {w : World} {ops : Array Oper} {rest : List Oper} {o : Oper} {a : Act} {Q : Exit → Act → World → Prop} (hgd : o.guard = none) (l c : Operand)
    (ho : o.op = Op.makeSlice 49 l c) (L C : Int) (n : Nat) (hl : a.eval l = .int .i64 L) (hc : a.eval c = .int .i64 C) (hL : L = (n : Int)) (hC : C = (n : Int)) (hn : n ≤ 2000000)
    (h : ∀ w', IR w' w.heap.size (some ⟨w.heap.size, 0, none⟩) n (List.replicate n 0) → Below w.heap.size w w' → wpList Tryd.prog ops Q rest (a.put o.dst (.slice (some ⟨w.heap.size, 0, none⟩) n n)) w') :
    wpList Tryd.prog ops Q (o :: rest) a w := by
  obtain ⟨i0, hi0, hz0, hz1, hz2⟩ := info_parts int_info
  refine wpList_make_full w hgd l c 49 ho w.heap.size 3 i0 _ 1 Tryd.underlying49 hi0 hz0 hz1 .i64 .i64 L C n hl hc hL hC (by rw [hz2]; omega) (by simp only [maxLen]; omega) (Nat.le_refl _) ?_
  intro w' hown hg
  refine h w' ?_ ⟨hg.os, hg.tape, hg.output, hg.size, fun k hk => hg.block k hk (by simp)⟩
  unfold IR
  rw [List.length_replicate, List.map_replicate]
  have e : (madeCells (Value.int .i64 0).cells (n * 1)).toList = List.replicate n (Value.int .i64 0) := by
    rw [Nat.mul_one]; exact toList_madeCells_one _ _
  rw [e] at hown
  exact hown

theorem scale_start (n : Nat) : (List.replicate (n + 1) (0 : Int)).set n 1 = List.replicate n 0 ++ wor [] := by
  rw [List.replicate_succ', List.set_append_right _ _ (by simp)]
  simp [wor]
theorem ix_app_right (a b : List Int) (i : Nat) : ix (a ++ b) (a.length + i) = ix b i := by
  simp [ix, List.getD_eq_getElem?_getD, List.getElem?_append_right]
theorem drop_cons (rs : List Int) (j : Nat) (h : j < rs.length) : rs.drop j = ix rs j :: rs.drop (j + 1) := by
  rw [List.drop_eq_getElem_cons h, ix_eq rs h]
theorem scale_ix (rs : List Int) (j : Nat) : ix (List.replicate (j + 1) 0 ++ wor (rs.drop (j + 1))) (j + 1) = ix (wor (rs.drop (j + 1))) 0 := by
  have := ix_app_right (List.replicate (j + 1) 0) (wor (rs.drop (j + 1))) 0
  rw [List.length_replicate] at this
  exact this
theorem scale_set (rs : List Int) (j : Nat) (h : j < rs.length) : (List.replicate (j + 1) 0 ++ wor (rs.drop (j + 1))).set j (ix (wor (rs.drop (j + 1))) 0 * ix rs j) = List.replicate j 0 ++ wor (rs.drop j) := by
  rw [drop_cons rs j h, wor, List.replicate_succ', List.append_assoc, List.set_append_right _ _ (by simp), Int.mul_comm]
  simp
theorem scale_len (rs : List Int) (k : Nat) (h : k ≤ rs.length) : (List.replicate k 0 ++ wor (rs.drop k)).length = rs.length + 1 := by
  simp [wor_len]; omega
theorem mw_no {rs : List Int} (h : vldR rs = false) : mw rs = [] := by simp [mw, h]
theorem mw_yes {rs : List Int} (h : vldR rs = true) : mw rs = wor rs := by simp [mw, h]
theorem vldR_long {rs : List Int} (h : 4 < rs.length) : vldR rs = false := by simp [vldR]; omega
theorem vldR_bad {rs : List Int} (j : Nat) (hj : j < rs.length) (h : okR (ix rs j) = false) : vldR rs = false := by
  rw [Bool.eq_false_iff]
  intro hv
  have := (vldR_iff.1 hv).2 (ix rs j) (by rw [ix_eq rs hj]; exact List.getElem_mem _)
  rw [this] at h
  cases h
theorem vldR_good {rs : List Int} (h : rs.length ≤ 4) (h2 : ∀ x ∈ rs, okR x = true) : vldR rs = true := vldR_iff.2 ⟨h, h2⟩

theorem ret_no {w w' : World} {rs : List Int} {A : Option Addr} {c : Nat} (h : vldR rs = false) (hi : IR w' w.heap.size A c []) (hb : Below w.heap.size w w') : RetIB w (mw rs) (vldR rs) (.returned (.tuple #[.slice A 0 c, .bool false])) w' := by
  rw [h, mw_no h]
  exact ⟨A, c, rfl, hi, hb⟩
theorem ret_yes {w w' : World} {rs : List Int} {A : Option Addr} {c n : Nat} (h : vldR rs = true) (hn : n = rs.length + 1) (hi : IR w' w.heap.size A c (wor rs)) (hb : Below w.heap.size w w') : RetIB w (mw rs) (vldR rs) (.returned (.tuple #[.slice A n c, .bool true])) w' := by
  rw [h, mw_yes h]
  exact ⟨A, c, by rw [wor_len, hn], hi, hb⟩

theorem scaleOf_long (A : Option Addr) (c : Nat) (rs : List Int) (w : World) (hl : 4 < rs.length) (hl2 : rs.length ≤ 1048576) :
    Calls Tryd.prog 30 #[.slice A rs.length c] w (RetIB w (mw rs) (vldR rs)) := by
  have hd : decide (4 < rs.length) = true := by simp; omega
  go_enter Tryd.func30, Tryd.ntmps30
  go_wp2_with fail
  go_ret2
  exact ret_no (vldR_long hl) (IR.nil_ _ _) (Below.refl _ _)

theorem made_cell {w w1 : World} {n : Nat} {zs : List Int} {c : Nat} (hown : IR w1 w.heap.size (some ⟨n, 0, none⟩) c zs) (k : Nat) (hk : k < zs.length) : w1.cell? ⟨n, k, none⟩ = some (.int .i64 (ix zs k)) ∧ w1.frozen? ⟨n, k, none⟩ = false := by
  obtain ⟨g, eg, _, _, _, _, hcell, hfro⟩ := hown.form (by omega)
  injection eg with eg
  injection eg with eg
  subst eg
  exact ⟨hcell k hk, hfro k⟩

set_option maxHeartbeats 1000000 in
theorem scaleOf_short (A : Option Addr) (c : Nat) (rs : List Int) (w : World) (hRD : RD .i64 w w.heap.size A rs) (hl : rs.length ≤ 4) :
    Calls Tryd.prog 30 #[.slice A rs.length c] w (RetIB w (mw rs) (vldR rs)) := by
  go_enter Tryd.func30, Tryd.ntmps30
  go_wp2_with (at_make; refine wpList_mkS rfl _ _ rfl _ _ (rs.length + 1) rfl rfl (by omega) (by omega) (by omega) ?_; intro w1 hown1 hb1; obtain ⟨hc1, hf1⟩ := made_cell hown1 rs.length (by simp); have HO1 := Lib.hid (IR.set hown1 rs.length 1); rw [scale_start] at HO1; clear hown1)
  go_loopw [5] (fun i wr => ∃ k : Nat, k ≤ rs.length ∧ i = .int .i64 ((k : Int) - 1) ∧ Hid (∀ x ∈ rs.drop k, okR x = true) ∧ IR wr w.heap.size (some ⟨w.heap.size, 0, none⟩) (rs.length + 1) (List.replicate k 0 ++ wor (rs.drop k)) ∧ Below w.heap.size w wr) (fun i _ => (intOf i + 1).toNat)
  case atStart => exact ⟨rs.length, Nat.le_refl _, rfl, by simp [Hid], by simpa using HO1.out, hb1.setCell (Nat.le_refl _) _⟩
  case round =>
    obtain ⟨k, hk, rfl, HA, hown, hb⟩ := hrel
    rcases k with _ | j
    · have HV := Lib.hid (vldR_good hl (by simpa using HA.out))
      go_wp2_with fail
      go_ret2
      exact ret_yes HV.out rfl (by simpa using hown) hb
    · rw [show (((j + 1 : Nat) : Int) - 1) = (j : Int) by omega]
      obtain ⟨b, off, rfl, hbb, hc⟩ := (hRD.below hb (Nat.le_refl _)).at_ (i := j) (by omega)
      have hlen := scale_len rs (j + 1) hk
      have hc2 := made_cell hown (j + 1) (by omega)
      obtain ⟨hc3, hf3⟩ := made_cell hown j (by omega)
      obtain ⟨hc2, -⟩ := hc2
      rw [scale_ix] at hc2
      have hbd := wor_head_bd 4 (rs.drop (j + 1)) (by simp; omega) HA.out
      have HO := Lib.hid (IR.set hown j (ix (wor (rs.drop (j + 1))) 0 * ix rs j))
      rw [scale_set rs j (by omega)] at HO
      have HB := Lib.hid (vldR_bad (rs := rs) j (by omega))
      have HD := Lib.hid (drop_cons rs j (by omega))
      generalize ix (wor (rs.drop (j + 1))) 0 = x at *
      generalize ix rs j = r at *
      clear hown hlen
      by_cases h2 : r < 2
      · go_wp2_with fail
        go_ret2
        exact ret_no (HB.out (by simp [okR]; omega)) (IR.nil_ _ _) hb
      · by_cases h3 : 100 < r
        · go_wp2_with fail
          go_ret2
          exact ret_no (HB.out (by simp [okR]; omega)) (IR.nil_ _ _) hb
        · have hm := Int.mul_le_mul hbd.2 (show r ≤ 100 by omega) (by omega) (by decide)
          have hm0 := Int.mul_nonneg (show 0 ≤ x by omega) (show 0 ≤ r by omega)
          have hm1 : x * r ≤ 10000000000 := hm
          clear hm
          go_wp2_with fail
          go_region
          go_wp2_with fail
          go_roundw
          case rel =>
            refine ⟨j, by omega, by first | rfl | go_num, ?_, HO.out, (hb.setCell (p := ⟨w.heap.size, j, none⟩) (Nat.le_refl _) _).drew⟩
            show ∀ x ∈ rs.drop j, okR x = true
            rw [HD.out]
            intro y hy
            rcases List.mem_cons.1 hy with rfl | hy
            · simp [okR]; omega
            · exact HA.out y hy
          case measure => simp [intOf] <;> omega

theorem scaleOf_any (A : Option Addr) (c : Nat) (rs : List Int) (w : World) (hRD : RD .i64 w w.heap.size A rs) (hl : rs.length ≤ 1048576) :
    Calls Tryd.prog 30 #[.slice A rs.length c] w (RetIB w (mw rs) (vldR rs)) := by
  by_cases h : rs.length ≤ 4
  · exact scaleOf_short A c rs w hRD h
  · exact scaleOf_long A c rs w (by omega) hl

/-! least -/
/-- 0 for none. -/
def pos0 (n : Int) : Int := if n < 0 then 0 else n
theorem pos0_yes {n : Int} (h : 0 ≤ n) : pos0 n = n := if_neg (by omega)
theorem pos0_no {n : Int} (h : n < 0) : pos0 n = 0 := if_pos h
/-- not negative; the walk leaves this word as it stands. -/
def nng (n : Int) : Bool := decide (0 ≤ n)
theorem nng_yes {n : Int} (h : 0 ≤ n) : nng n = true := decide_eq_true h
theorem nng_no {n : Int} (h : n < 0) : nng n = false := decide_eq_false (by omega)
theorem nng_true {n : Int} (h : nng n = true) : 0 ≤ n := of_decide_eq_true h
theorem nng_false {n : Int} (h : nng n = false) : n < 0 := by have := of_decide_eq_false h; omega
def lstV (n : Int) : Value := .tuple #[.int .i64 (pos0 n), .bool (nng n)]
theorem lstV_no : lstV (-1) = .tuple #[.int .i64 0, .bool false] := rfl
theorem lstV_yes {n : Int} (h : 0 ≤ n) : lstV n = .tuple #[.int .i64 n, .bool true] := by
  rw [lstV, pos0_yes h, nng_yes h]
theorem least_no (A C : Option Addr) (c d n m : Nat) (w : World) (hne : n ≠ m) (hn : n ≤ 1048576) (hm : m ≤ 1048576) :
    Calls Tryd.prog 31 #[.slice A n c, .slice C m d] w fun e w' => e = .returned (lstV (-1)) ∧ w = w' := by
  have h1 : ((m : Int) != (n : Int)) = true := by simp; omega
  go_enter Tryd.func31, Tryd.ntmps31
  go_wp2_with fail
  go_ret2
  exact ⟨rfl, rfl⟩
theorem lstF_bad {n v acc : Int} {ns vs : List Int} (h : n < 0 ∨ 1000000000 < n) : lstF (n :: ns) (v :: vs) acc = -1 := by rw [lstF, if_pos h]
theorem lstF_much {n v acc : Int} {ns vs : List Int} (h : ¬ (n < 0 ∨ 1000000000 < n)) (h2 : 1000000000 < acc + n * v) : lstF (n :: ns) (v :: vs) acc = -1 := by rw [lstF, if_neg h, if_pos h2]
theorem lstF_go {n v acc : Int} {ns vs : List Int} (h : ¬ (n < 0 ∨ 1000000000 < n)) (h2 : ¬ 1000000000 < acc + n * v) : lstF (n :: ns) (v :: vs) acc = lstF ns vs (acc + n * v) := by rw [lstF, if_neg h, if_neg h2]

set_option maxHeartbeats 1000000 in
theorem least_yes (A C : Option Addr) (c d : Nat) (ws ns : List Int) (w : World) (hA : RD .i64 w w.heap.size A ws) (hC : RD .i64 w w.heap.size C ns) (hl : ns.length = ws.length) (hw : ∀ i, i < ws.length → 1 ≤ ix ws i ∧ ix ws i ≤ 100000000) (hm : ws.length ≤ 1048576) :
    Calls Tryd.prog 31 #[.slice A ws.length c, .slice C ns.length d] w fun e w' => e = .returned (lstV (lstF ns ws 0)) ∧ w = w' := by
  have h1 : ((ns.length : Int) != (ws.length : Int)) = false := by simp [hl]
  have HL := Lib.hid hl
  have HW := Lib.hid hw
  clear hl hw
  have hm2 : ns.length ≤ 1048576 := by rw [HL.out]; exact hm
  go_enter Tryd.func31, Tryd.ntmps31
  go_wp2_with fail
  go_loop [6, 16] (fun s i => ∃ (k : Nat) (acc : Int), k ≤ ns.length ∧ 0 ≤ acc ∧ acc ≤ 1000000000 ∧ i = .int .i64 k ∧ s = .int .i64 acc ∧ Hid (lstF ns ws 0 = lstF (ns.drop k) (ws.drop k) acc)) (fun _ i => ns.length - (intOf i).toNat)
  case atStart => exact ⟨0, 0, Nat.zero_le _, by omega, by omega, rfl, rfl, rfl⟩
  case round =>
    obtain ⟨k, acc, hk, a0, a1, rfl, rfl, HS⟩ := hrel
    by_cases hlt : k < ns.length
    · have hlt2 : k < ws.length := by rw [← HL.out]; exact hlt
      obtain ⟨b, off, rfl, hbb, hc⟩ := hA.at_ hlt2
      obtain ⟨b2, off2, rfl, hbb2, hc2⟩ := hC.at_ hlt
      have hb := HW.out k hlt2
      have HT := Lib.hid (HS.out)
      rw [drop_cons ns k hlt, drop_cons ws k hlt2] at HT
      clear HS
      generalize ix ws k = v at *
      generalize ix ns k = n at *
      by_cases h2 : n < 0
      · go_wp2_with fail
        go_ret2
        exact ⟨by rw [HT.out, lstF_bad (.inl h2)]; rfl, rfl⟩
      · by_cases h3 : 1000000000 < n
        · go_wp2_with fail
          go_ret2
          exact ⟨by rw [HT.out, lstF_bad (.inr h3)]; rfl, rfl⟩
        · have hm1 := Int.mul_le_mul (show n ≤ 1000000000 by omega) hb.2 (by omega) (by decide)
          have hm0 := Int.mul_nonneg (show 0 ≤ n by omega) (show 0 ≤ v by omega)
          have hm3 : n * v ≤ 100000000000000000 := hm1
          clear hm1
          by_cases h4 : 1000000000 < acc + n * v
          · go_wp2_with fail
            go_ret2
            exact ⟨by rw [HT.out, lstF_much (by omega) h4]; rfl, rfl⟩
          · go_wp2_with fail
            go_round
            case rel => exact ⟨k + 1, acc + n * v, by omega, by omega, by omega, by go_num, rfl, HT.out.trans (lstF_go (by omega) h4)⟩
            case measure => simp [intOf] <;> omega
    · have HE : Hid (lstF ns ws 0 = acc) := by
        show _ = _
        rw [HS.out, List.drop_of_length_le (by omega)]
        cases List.drop k ws <;> rfl
      go_wp2_with fail
      go_ret2
      exact ⟨by rw [HE.out, lstV_yes a0]; rfl, rfl⟩

/-! proper -/
end Go.Proofs.YticnnfmmfjfffaaDoor
