/- The walks of the laws' own helpers sameInts and sumOf. No condition but bounds. -/
import Derived.Test.YtmcooaopbigebaaDrwB
import Derived.Test.YtmcooaopbigebaaMeaT
namespace Go.Proofs.Ytmcooaopbigebaa
open Go.RowKit
set_option linter.unusedVariables false

theorem addN_inv {x y : Int} (h : 0 ≤ addN x y) : 0 ≤ x ∧ 0 ≤ y ∧ addN x y = x + y := by
  unfold addN at h ⊢
  by_cases hc : 0 ≤ x ∧ 0 ≤ y
  · rw [if_pos hc]; exact ⟨hc.1, hc.2, rfl⟩
  · rw [if_neg hc] at h; omega
theorem takeN_inv {x y : Int} (h : 0 ≤ takeN x y) : 0 ≤ x ∧ 0 ≤ y ∧ takeN x y = x - y := by
  unfold takeN at h ⊢
  by_cases hc : 0 ≤ x ∧ 0 ≤ y
  · rw [if_pos hc]; exact ⟨hc.1, hc.2, rfl⟩
  · rw [if_neg hc] at h; omega
theorem timesN_inv {x n : Int} (h : 0 ≤ timesN x n) : 0 ≤ x ∧ 0 ≤ n ∧ n ≤ 100000 ∧ timesN x n = x * n := by
  unfold timesN at h ⊢
  by_cases hc : 0 ≤ x ∧ 0 ≤ n ∧ n ≤ 100000
  · rw [if_pos hc]; exact ⟨hc.1, hc.2.1, hc.2.2, rfl⟩
  · rw [if_neg hc] at h; omega
theorem addN_comm (x y : Int) : addN x y = addN y x := by
  unfold addN
  by_cases hc : 0 ≤ x ∧ 0 ≤ y
  · rw [if_pos hc, if_pos ⟨hc.2, hc.1⟩]; omega
  · rw [if_neg hc, if_neg (fun h => hc ⟨h.2, h.1⟩)]
theorem ordN_ge {x y : Int} (hx : 0 ≤ x) (hy : 0 ≤ y) (h : y ≤ x) : 0 ≤ ordN x y ∧ ordN x y ≤ 1 := by
  rw [ordN, if_pos ⟨hx, hy⟩, if_neg (by omega)]
  split <;> omega
theorem ordN_zero {x y s : Int} (hx : 0 ≤ x) (hy : 0 ≤ y) (h : s = x - y) : (ordN x y == 0) = (s == 0) := by
  rw [ordN, if_pos ⟨hx, hy⟩, Bool.eq_iff_iff, beq_iff_eq, beq_iff_eq]
  by_cases h1 : x < y
  · rw [if_pos h1]; omega
  · rw [if_neg h1]
    by_cases h2 : y < x
    · rw [if_pos h2]; omega
    · rw [if_neg h2]; omega
theorem shZ_len {rs : List Int} {x n k : Int} (hv : 0 ≤ x → vldR rs = true) : (shZ rs x n k).length ≤ 5 := by
  unfold shZ
  split
  · rename_i h
    have := (vldR_iff.1 (hv (shB_iff.1 h).1)).1
    rw [prp_len, wor_len]; omega
  · simp
theorem lst_nn {rs ns : List Int} {N : Int} (h : lst rs ns = N) (hp : 0 ≤ N) : dot ns (wor rs) = N ∧ ∀ n ∈ ns, 0 ≤ n := by
  rcases lst_is rs ns with ⟨_, _, e, h1, _⟩ | ⟨e, _⟩
  · exact ⟨by omega, h1⟩
  · omega
theorem prp_le (ws : List Int) (n : Int) (h0 : 0 ≤ n) (h : ∀ w ∈ ws, 1 ≤ w) : ∀ x ∈ prp ws n, x ≤ n := by
  induction ws generalizing n with
  | nil => simp [prp]
  | cons w ws ih =>
    intro x hx
    have hw := h w (by simp)
    rcases List.mem_cons.1 hx with rfl | hx'
    · exact Int.ediv_le_self _ h0
    · have h1 := ih (n % w) (Int.emod_nonneg _ (by omega)) (fun y hy => h y (by simp [hy])) x hx'
      have h2 := emod_le h0 hw
      omega
theorem aoZ_bd (rs : List Int) (n : Int) : ∀ x ∈ aoZ rs n, -1 ≤ x ∧ x ≤ 1000000001 := by
  intro x hx
  cases hb : aoB rs n with
  | false => rw [aoZ_no hb] at hx; simp at hx
  | true =>
    rw [aoZ_yes hb] at hx
    obtain ⟨hv, h0, h1⟩ := aoB_iff.1 hb
    have h2 := prp_nn _ n h0 (wor_mem hv) x hx
    have h3 := prp_le _ n h0 (wor_mem hv) x hx
    omega

set_option maxHeartbeats 400000 in
theorem sameInts_yes (A C : Option Addr) (c d : Nat) (zs : List Int) (w : World) (h : RD .i64 w w.heap.size A zs) (h' : RD .i64 w w.heap.size C zs) (hl : zs.length ≤ 1048576) :
    Calls Try.prog 23 #[.slice A zs.length c, .slice C zs.length d] w fun e w' => e = .returned (.bool true) ∧ Below w.heap.size w w' := by
  go_enter Try.func23, Try.ntmps23
  go_wp2
  go_loopw [5] (fun i wr => ∃ k : Nat, k ≤ zs.length ∧ i = .int .i64 k ∧ ∃ n, wr = w.drewN n) (fun i _ => zs.length - (intOf i).toNat)
  case atStart => exact ⟨0, Nat.zero_le _, rfl, 0, rfl⟩
  case round =>
    obtain ⟨k, hk, rfl, n, rfl⟩ := hrel
    by_cases hlt : k < zs.length
    · obtain ⟨b, off, rfl, hbb, hc⟩ := h.at_ (i := k) hlt
      obtain ⟨b', off', rfl, hbb', hc'⟩ := h'.at_ (i := k) hlt
      go_wp2
      go_quiet (fail)
      go_wp2
      go_roundw
      case rel => exact ⟨k + 1, by omega, by go_num, _, rfl⟩
      case measure => simp [intOf] <;> omega
    · have HE := Lib.hid (show k = zs.length by omega)
      go_wp2
      go_ret
      exact ⟨rfl, below_drewN (Below.refl _ _) n⟩
theorem take_snoc_ix (zs : List Int) (k : Nat) (h : k < zs.length) : zs.take (k + 1) = zs.take k ++ [ix zs k] := by
  rw [List.take_succ_eq_append_getElem h, ix_eq zs h]
set_option maxHeartbeats 400000 in
theorem sameInts_no (A C : Option Addr) (c d : Nat) (xs ys : List Int) (w : World) (hA : RD .i64 w w.heap.size A xs) (hC : RD .i64 w w.heap.size C ys) (hl : xs.length ≤ 1048576) (hl2 : ys.length ≤ 1048576) (hne : xs ≠ ys) :
    Calls Try.prog 23 #[.slice A xs.length c, .slice C ys.length d] w fun e w' => e = .returned (.bool false) ∧ Below w.heap.size w w' := by
  have HN := Lib.hid hne
  clear hne
  by_cases hlen : xs.length = ys.length
  · have h1 : ((xs.length : Int) != (ys.length : Int)) = false := by simp [hlen]
    have HL := Lib.hid hlen
    clear hlen
    go_enter Try.func23, Try.ntmps23
    go_wp2_with fail
    clear h1
    go_loopw [5] (fun i wr => ∃ k : Nat, k ≤ xs.length ∧ i = .int .i64 k ∧ Hid (xs.take k = ys.take k) ∧ ∃ n, wr = w.drewN n) (fun i _ => xs.length - (intOf i).toNat)
    case atStart => exact ⟨0, Nat.zero_le _, rfl, by simp [Hid], 0, rfl⟩
    case round =>
      obtain ⟨k, hk, rfl, HT, n, rfl⟩ := hrel
      by_cases hlt : k < xs.length
      · have hlt2 : k < ys.length := by rw [← HL.out]; exact hlt
        obtain ⟨b, off, rfl, hbb, hc⟩ := hA.at_ (i := k) hlt
        obtain ⟨b', off', rfl, hbb', hc'⟩ := hC.at_ (i := k) hlt2
        have HX := Lib.hid (take_snoc_ix xs k hlt)
        have HY := Lib.hid (take_snoc_ix ys k hlt2)
        have hi1 : (k : Int) < xs.length := by omega
        have hi2 : (k : Int) < ys.length := by omega
        generalize ix xs k = x at *
        generalize ix ys k = y at *
        by_cases hxy : x = y
        · have t1 : (x != y) = false := by simp [hxy]
          have HXY := Lib.hid hxy
          clear hxy
          go_wp2_with fail
          go_quiet (fail)
          go_wp2_with fail
          go_roundw
          case rel => exact ⟨k + 1, by omega, by go_num, by show _ = _; rw [HX.out, HY.out, HT.out, HXY.out], _, rfl⟩
          case measure => simp [intOf] <;> omega
        · have t1 : (x != y) = true := by simp [hxy]
          clear hxy
          go_wp2_with fail
          go_quiet (fail)
          go_wp2_with fail
          go_ret
          exact ⟨rfl, below_drewN (below_drewN (Below.refl _ _) _) _⟩
      · exfalso
        have := HT.out
        rw [List.take_of_length_le (by omega), List.take_of_length_le (by rw [← HL.out]; omega)] at this
        exact HN.out this
  · have h1 : ((xs.length : Int) != (ys.length : Int)) = true := by simp; omega
    clear hlen
    go_enter Try.func23, Try.ntmps23
    go_wp2_with fail
    go_ret
    exact ⟨rfl, Below.refl _ _⟩

end Go.Proofs.Ytmcooaopbigebaa
