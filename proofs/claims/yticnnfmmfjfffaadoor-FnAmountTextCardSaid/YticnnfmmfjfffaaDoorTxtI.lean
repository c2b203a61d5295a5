/- The walk of the program's AmountText. No condition but bounds on lengths and the library's table. -/
import Derived.Test.YticnnfmmfjfffaaDoorTxtM
namespace Go.Proofs.YticnnfmmfjfffaaDoor
open Go.RowKit
set_option linter.unusedVariables false
set_option linter.unusedSimpArgs false

set_option maxHeartbeats 2000000 in
theorem iAmountText_any (A C : Option Addr) (c d : Nat) (rs ns : List Int) (w : World) (hA : RD .i64 w w.heap.size A rs) (hl : rs.length ≤ 1048576) (hC : RD .i64 w w.heap.size C ns) (hl2 : ns.length ≤ 1048576) (hT : TB w) :
    Calls Tryd.prog 6 #[.agg #[.slice A rs.length c], .slice C ns.length d] w fun e w' => e = .returned (.string (txB rs ns)) ∧ Below w.heap.size w w' := by
  have hb0 := below_new w (.cells #[.slice A rs.length c] 25)
  by_cases hv : 0 ≤ lst rs ns
  · obtain ⟨n1, n5, hel⟩ := lst_elems hv
    have HB := Lib.hid (txB_yes hv)
    have HV := Lib.hid (nng_yes hv)
    have HEL := Lib.hid hel
    clear hv hel
    go_enter Tryd.func6, Tryd.ntmps6
    go_wp2_with fail
    refine (iAmountValid_any A C c d rs ns _ (hA.to hb0) hl (hC.to hb0) hl2).mono ?_
    rintro e w1 ⟨rfl, hb1⟩
    rw [HV.out]
    have T1 := below_then hb0 hb1
    go_wp2_with (at_make; refine wpList_mk0C rfl _ _ 41 9 rfl _ 1 16 str_info Tryd.underlying41 (by omega) _ ns.length rfl rfl rfl (by omega) ?_; intro w2 hown2 hb2)
    have T2 := below_then T1 hb2
    go_loopw [5, 17] (fun s i wr => ∃ (k : Nat) (A' : Option Addr) (c' : Nat), k ≤ ns.length ∧ i = .int .i64 k ∧ s = .slice A' k c' ∧ OR wr w1.heap.size 9 1 A' c' k (scl (ns.take k)) ∧ w1.heap.size ≤ wr.heap.size ∧ Below w.heap.size w wr) (fun _ i _ => ns.length - (intOf i).toNat)
    case atStart => exact ⟨0, _, _, Nat.zero_le _, rfl, rfl, by simpa [scl] using hown2, hb2.size, T2⟩
    case round =>
      obtain ⟨k, A', c', hk, rfl, rfl, ho, hB0, hb⟩ := hrel
      clear hown2 hb2 T2
      by_cases hlt : k < ns.length
      · obtain ⟨b, off, rfl, hbb, hc⟩ := hC.at_ hlt
        have hvv := HEL.out _ (ix_mem ns hlt)
        have HST := Lib.hid (show scl (ns.take (k + 1)) = scl (ns.take k) ++ [.string (dtx (ix ns k))] by rw [take_ix ns hlt, scl_snoc])
        have HI := fun w hT => itoa_any (ix ns k) w (by omega) (by omega) hT
        have hcc := (hb.cell (p := ⟨b, off + k, none⟩) hbb).trans hc
        generalize ix ns k = v at *
        go_wp2_with fail
        refine (HI _ (hT.to hb)).mono ?_
        rintro e w3 ⟨rfl, hb3⟩
        have hB3 := hb3.size
        have ho3 := Lib.hid (OR.below ho hb3 (Nat.le_refl _))
        clear ho
        generalize dtx v = D at *
        go_wp2_with (at_builtin; refine wpList_pushC rfl _ _ 41 9 rfl _ 1 16 str_info Tryd.underlying41 rfl (by omega) (by omega) rfl (by simp [Value.oneCell']) w1.heap.size A' c' k _ rfl ho3.out _ rfl rfl (by omega) (by omega) ?_; intro A2 c2 w4 hown4 hg4 hb4 _)
        refine ⟨⟨k + 1, A2, c2, by omega, by go_num, rfl, by rw [HST.out]; exact hown4, by have := hg4.size; omega, (below_then hb hb3).trans (hb4.mono T1.size)⟩, by simp [intOf]; omega⟩
      · have hke : k = ns.length := by omega
        subst hke
        rw [List.take_length] at ho
        go_wp2_with fail
        refine (join_any A' c' w1.heap.size ns _ n1 n5 (fun n hn => by have := HEL.out n hn; omega) ho).mono ?_
        rintro e w3 ⟨rfl, hb3⟩
        go_wp2_with fail
        go_ret
        exact ⟨by rw [HB.out]; rfl, below_then hb hb3⟩
  · have HB := Lib.hid (txB_no hv)
    have HV := Lib.hid (nng_no (show lst rs ns < 0 by omega))
    go_enter Tryd.func6, Tryd.ntmps6
    go_wp2_with fail
    refine (iAmountValid_any A C c d rs ns _ (hA.to hb0) hl (hC.to hb0) hl2).mono ?_
    rintro e w1 ⟨rfl, hb1⟩
    rw [HV.out]
    have T1 := below_then hb0 hb1
    go_wp2_with fail
    go_ret
    exact ⟨by rw [HB.out]; rfl, T1⟩

end Go.Proofs.YticnnfmmfjfffaaDoor
