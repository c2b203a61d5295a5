/- The walk of the reference's AmountText. No condition but bounds on lengths. -/
import Derived.Test.YticnnfmmfjfffaaDoorTxtD
namespace Go.Proofs.YticnnfmmfjfffaaDoor
open Go.RowKit
open Go.Lib (decDigits)
set_option linter.unusedVariables false
set_option linter.unusedSimpArgs false

/-- the numbers with points between. -/
def txN (ns : List Int) : List UInt8 := dj (ns.map Int.toNat)
def txS (ns : List Int) : ByteArray := ⟨(txN ns).toArray⟩
/-- the text of an amount. -/
def txB (rs ns : List Int) : ByteArray := if 0 ≤ lst rs ns then txS ns else ⟨#[]⟩
theorem txB_yes {rs ns : List Int} (h : 0 ≤ lst rs ns) : txB rs ns = txS ns := if_pos h
theorem txB_no {rs ns : List Int} (h : ¬ 0 ≤ lst rs ns) : txB rs ns = ⟨#[]⟩ := if_neg h
theorem dot_ge (ns ws : List Int) (h1 : ∀ n ∈ ns, 0 ≤ n) (h2 : ∀ w ∈ ws, 1 ≤ w) (hl : ns.length = ws.length) : ∀ n ∈ ns, n ≤ dot ns ws := by
  induction ns generalizing ws with
  | nil => intro n hn; simp at hn
  | cons a ns ih =>
    cases ws with
    | nil => simp at hl
    | cons w ws =>
      intro n hn
      rw [dot]
      have q1 := Int.mul_le_mul_of_nonneg_left (h2 w (by simp)) (h1 a (by simp))
      have q0 := h1 a (by simp)
      have q2 := dot_nn ns ws (fun x hx => h1 x (by simp [hx])) (fun x hx => h2 x (by simp [hx]))
      rcases List.mem_cons.1 hn with rfl | h
      · omega
      · have := ih ws (fun x hx => h1 x (by simp [hx])) (fun x hx => h2 x (by simp [hx])) (by simpa using hl) n h
        omega
/-- what a valid amount's numbers are. -/
theorem lst_elems {rs ns : List Int} (h : 0 ≤ lst rs ns) : 1 ≤ ns.length ∧ ns.length ≤ 5 ∧ ∀ n ∈ ns, 0 ≤ n ∧ n ≤ 1000000000 := by
  rcases lst_is rs ns with ⟨h1, h2, _, h3, h4, h5⟩ | ⟨e, _⟩
  · have hw := wor_mem h1
    have hr := (vldR_iff.1 h1).1
    refine ⟨by omega, by omega, fun n hn => ⟨h3 n hn, ?_⟩⟩
    have := dot_ge ns (wor rs) h3 hw (by rw [wor_len]; exact h2) n hn
    omega
  · omega
theorem ix_mem (zs : List Int) {i : Nat} (h : i < zs.length) : ix zs i ∈ zs := by rw [ix_eq zs h]; exact List.getElem_mem h
theorem take_ix (zs : List Int) {k : Nat} (h : k < zs.length) : zs.take (k + 1) = zs.take k ++ [ix zs k] := by
  rw [ix_eq zs h, List.take_succ_eq_append_getElem h]
theorem tx_first (n : Int) : txS [] ++ dtx n = txS [n] := by
  apply ByteArray.ext
  simp [txS, txN, dtx, dj_one, dj_nil]
theorem tx_next {l : List Int} (h : l ≠ []) (n : Int) : txS l ++ ⟨#[46]⟩ ++ dtx n = txS (l ++ [n]) := by
  apply ByteArray.ext
  have := dj_snoc (l.map Int.toNat) n.toNat (by simpa using h)
  simp [txS, txN, dtx, this]
theorem dj_len {m : Nat} : ∀ (zs : List Nat), (∀ z ∈ zs, (decDigits z).length ≤ m) → (dj zs).length ≤ (m + 1) * zs.length
  | [], _ => by simp [dj_nil]
  | [z], h => by
    rw [dj_one]
    have := h z (by simp)
    simp; omega
  | z :: y :: zs, h => by
    rw [dj_cons, List.length_append, List.length_cons]
    have h1 := h z (by simp)
    have h2 := dj_len (y :: zs) (fun x hx => h x (by simp [hx]))
    rw [List.length_cons (a := z), Nat.mul_add]
    omega
theorem tx_size {ns : List Int} (h : ∀ n ∈ ns, n ≤ 10000000000) : (txS ns).size ≤ 12 * ns.length := by
  have := dj_len (m := 11) (ns.map Int.toNat) (fun z hz => by
    obtain ⟨n, hn, rfl⟩ := List.mem_map.1 hz
    exact nd_le (k := 10) (by have := h n hn; omega))
  show (txN ns).toArray.size ≤ _
  simpa [txN] using this

set_option maxHeartbeats 2000000 in
theorem sAmountText_any (A C : Option Addr) (c d : Nat) (rs ns : List Int) (w : World) (hA : RD .i64 w w.heap.size A rs) (hl : rs.length ≤ 1048576) (hC : RD .i64 w w.heap.size C ns) (hl2 : ns.length ≤ 1048576) :
    Calls Tryd.prog 7 #[.agg #[.slice A rs.length c], .slice C ns.length d] w fun e w' => e = .returned (.string (txB rs ns)) ∧ Below w.heap.size w w' := by
  have hb0 := below_new w (.cells #[.slice A rs.length c] 25)
  have hcb := box_cell w (.slice A rs.length c) 25
  have hlt0 : w.heap.size < (w.alloc (.cells #[.slice A rs.length c] 25)).heap.size := by simp
  by_cases hv : 0 ≤ lst rs ns
  · obtain ⟨n1, n5, hel⟩ := lst_elems hv
    have HB := Lib.hid (txB_yes hv)
    have HV := Lib.hid (nng_yes hv)
    have HEL := Lib.hid hel
    clear hv hel
    go_enter Tryd.func7, Tryd.ntmps7
    go_wp2_with fail
    go_loopw [5, 6] (fun o i wr => ∃ k : Nat, k ≤ ns.length ∧ i = .int .i64 k ∧ o = .string (txS (ns.take k)) ∧ Below (w.alloc (.cells #[.slice A rs.length c] 25)).heap.size (w.alloc (.cells #[.slice A rs.length c] 25)) wr) (fun _ i _ => ns.length - (intOf i).toNat)
    case atStart => exact ⟨0, Nat.zero_le _, rfl, rfl, Below.refl _ _⟩
    case round =>
      obtain ⟨k, hk, rfl, rfl, hbx⟩ := hrel
      have hb := below_then hb0 hbx
      by_cases hlt : k < ns.length
      · have hc1 := (hbx.cell (p := ⟨w.heap.size, 0, none⟩) hlt0).trans hcb
        obtain ⟨b, off, rfl, hbb, hc⟩ := hC.at_ hlt
        have hv := HEL.out _ (ix_mem ns hlt)
        have hS := tx_size (ns := ns.take k) (fun n hn => by have := HEL.out n (List.mem_of_mem_take hn); omega)
        rw [List.length_take] at hS
        have HST := Lib.hid (take_ix ns hlt)
        have hD := dtx_size (n := ix ns k) (by omega)
        have HD := fun w => l6Dec_any 10000000000 (ix ns k) w (by omega) (by omega) (by omega)
        go_wp2_with fail
        refine (sAmountValid_any A (some ⟨b, off, none⟩) c d rs ns _ (hA.to hb) hl (hC.to hb) hl2).mono ?_
        rintro e w1 ⟨rfl, hb1⟩
        rw [HV.out]
        have hcc := ((below_then hb hb1).cell (p := ⟨b, off + k, none⟩) hbb).trans hc
        by_cases hk0 : k = 0
        · subst hk0
          have HT := Lib.hid (tx_first (ix ns 0))
          rw [show txS [ix ns 0] = txS (ns.take 1) by rw [HST.out]; rfl] at HT
          rw [Nat.add_zero] at hcc
          rw [List.take_zero] at hS
          rw [List.take_zero]
          generalize ix ns 0 = v at *
          go_wp2_with fail
          refine (HD _).mono ?_
          rintro e w2 ⟨rfl, hb2⟩
          generalize dtx v = D at *
          have hz : ¬ 9223372036854775807 < (txS []).size + D.size := by omega
          go_wp2_with fail
          refine ⟨⟨1, by omega, rfl, by rw [HT.out], hbx.trans ((hb1.trans (hb2.mono hb1.size)).mono hbx.size)⟩, by simp [intOf]; omega⟩
        · have hk1 : 0 < k := by omega
          have HT := Lib.hid (tx_next (l := ns.take k) (by intro h0; have := congrArg List.length h0; rw [List.length_take, List.length_nil] at this; omega) (ix ns k))
          rw [show ns.take k ++ [ix ns k] = ns.take (k + 1) from HST.out.symm] at HT
          have hS1 : (txS (ns.take k)).size ≤ 60 := by omega
          have hS2 : (txS (ns.take k) ++ (⟨#[46]⟩ : ByteArray)).size ≤ 61 := by rw [ByteArray.size_append]; show _ + 1 ≤ 61; omega
          generalize ix ns k = v at *
          generalize txS (ns.take k) = P at *
          have hz0 : ¬ 9223372036854775807 < P.size + (⟨#[46]⟩ : ByteArray).size := by show ¬ _ < _ + 1; omega
          go_wp2_with fail
          refine (HD _).mono ?_
          rintro e w2 ⟨rfl, hb2⟩
          generalize dtx v = D at *
          have hz : ¬ 9223372036854775807 < (P ++ (⟨#[46]⟩ : ByteArray)).size + D.size := by omega
          generalize hPP : P ++ (⟨#[46]⟩ : ByteArray) = P1 at *
          go_wp2_with fail
          refine ⟨⟨k + 1, by omega, by go_num, by rw [HT.out], hbx.trans ((hb1.trans (hb2.mono hb1.size)).mono hbx.size)⟩, by simp [intOf]; omega⟩
      · have hke : k = ns.length := by omega
        subst hke
        have HE : txS (ns.take ns.length) = txS ns := by rw [List.take_length]
        go_wp2_with fail
        go_ret
        exact ⟨by rw [HE, HB.out]; rfl, hb⟩
  · have HB := Lib.hid (txB_no hv)
    by_cases h0 : ns.length = 0
    · have hlz : ¬ (0 : Int) < (ns.length : Int) := by omega
      go_enter Tryd.func7, Tryd.ntmps7
      go_wp2_with fail
      go_loopw [5, 6] (fun o i wr => i = .int .i64 0 ∧ o = .string ⟨#[]⟩ ∧ wr = (w.alloc (.cells #[.slice A rs.length c] 25))) (fun _ i _ => 0)
      case atStart => exact ⟨rfl, rfl, rfl⟩
      case round =>
        obtain ⟨rfl, rfl, rfl⟩ := hrel
        go_wp2_with fail
        go_ret
        exact ⟨by rw [HB.out]; rfl, hb0⟩
    · have hlz : (0 : Int) < (ns.length : Int) := by omega
      have HV := Lib.hid (nng_no (show lst rs ns < 0 by omega))
      go_enter Tryd.func7, Tryd.ntmps7
      go_wp2_with fail
      go_loopw [5, 6] (fun o i wr => i = .int .i64 0 ∧ o = .string ⟨#[]⟩ ∧ wr = (w.alloc (.cells #[.slice A rs.length c] 25))) (fun _ i _ => 0)
      case atStart => exact ⟨rfl, rfl, rfl⟩
      case round =>
        obtain ⟨rfl, rfl, rfl⟩ := hrel
        go_wp2_with fail
        refine (sAmountValid_any A C c d rs ns _ (hA.to hb0) hl (hC.to hb0) hl2).mono ?_
        rintro e w1 ⟨rfl, hb1⟩
        rw [HV.out]
        go_wp2_with fail
        go_ret
        exact ⟨by rw [HB.out]; rfl, below_then hb0 hb1⟩

end Go.Proofs.YticnnfmmfjfffaaDoor
