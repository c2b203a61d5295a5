/- The walk of the law FnExactTalliesMerge. -/
import Derived.Test.YtahlflennmdckaaTalX
import Derived.Test.YtahlflennmdckaaTalO
namespace Go.Proofs.Ytahlflennmdckaa
open Go.RowKit Go.PlainAid
set_option linter.unusedVariables false
set_option linter.unusedSimpArgs false

theorem meR_len (ts : List Tal) : (meR ts).length ≤ 30 := by
  unfold meR
  split
  · have := mrg_len ts (rows 5)
    have e : (rows 5).length = 10 := by decide
    omega
  · simp
set_option maxRecDepth 100000 in
set_option maxHeartbeats 8000000 in
theorem walkFnExactTalliesMerge (a : Option Addr) (len cap : Nat) (ts : List Tal) (w : World) (hs : TaSl w a len cap ts) :
    Calls Try.prog 12 #[.slice a len cap] w fun e w' => e = .returned (.bool true) ∧ Below w.heap.size w w' := by
  obtain ⟨rfl, hlc, hcm, hR, hM⟩ := hs
  unfold maxLen at hcm
  have HR := Lib.hid hR
  clear hR
  go_enter Try.func12, Try.ntmps12
  go_wp2_with fail
  refine (szTallyS_any a cap ts _ HR.out hM (by omega)).mono ?_
  rintro e w1 ⟨u, rfl, u1, hu, hb1⟩
  by_cases hn : u < 0
  · clear hu
    go_wp2_with fail
    go_ret
    exact ⟨rfl, hb1⟩
  have HSM := hu (by omega)
  have hl : ts.length ≤ 1048576 := HSM.1
  have HTS := Lib.hid HSM.ts
  clear hu HSM hM
  obtain ⟨zs, hzs⟩ : ∃ zs, meR ts = zs := ⟨_, rfl⟩
  have hz5 := meR_len ts
  rw [hzs] at hz5
  obtain ⟨V, hV⟩ : ∃ V, meB ts = V := ⟨_, rfl⟩
  have sT : ∀ (A : Option Addr) (c : Nat) (w : World), TR w w.heap.size A ts → Calls Try.prog 46 #[.slice A ts.length c] w (RetTB w zs V) := fun A c w h => by have := sTalliesMerge A c ts w h HTS.out (by omega); rw [hzs, hV] at this; exact this
  have iT : ∀ (A : Option Addr) (c : Nat) (w : World), TR w w.heap.size A ts → Calls Try.prog 47 #[.slice A ts.length c] w (RetTB w zs V) := fun A c w h => by have := iTalliesMerge A c ts w h HTS.out (by omega); rw [hzs, hV] at this; exact this
  have hbv := bne_self_b V
  clear hzs hV
  go_wp2_with fail
  refine (toTallyS_any a cap ts _ (rc_to HR.out hb1) hl).mono ?_
  rintro e w2 ⟨A2, c2, rfl, o2, hb2⟩
  have O2 := Lib.hid o2
  have T2 := below_then2 hb1 hb2
  clear o2
  go_wp2_with fail
  refine (sT A2 c2 _ (OR.rd O2.out)).mono ?_
  rintro e w3 ⟨A3, c3, rfl, o3, hb3⟩
  have O3 := Lib.hid o3
  have T3 := below_then2 T2 hb3
  clear o3
  go_wp2_with fail
  refine (toTallyS_any a cap ts _ (rc_to HR.out T3) hl).mono ?_
  rintro e w4 ⟨A4, c4, rfl, o4, hb4⟩
  have O4 := Lib.hid o4
  have T4 := below_then2 T3 hb4
  clear o4
  go_wp2_with fail
  refine (iT A4 c4 _ (OR.rd O4.out)).mono ?_
  rintro e w5 ⟨A5, c5, rfl, o5, hb5⟩
  have O5 := Lib.hid o5
  have T5 := below_then2 T4 hb5
  clear o5
  have R3 := Lib.hid (rc_to (rc_to (OR.rd O3.out) hb4) hb5)
  go_wp2_with fail
  refine (eqTallyS_yes A5 A3 c5 c3 zs _ (OR.rd O5.out) R3.out (by omega)).mono ?_
  rintro e v5 ⟨rfl, hv5⟩
  have U5 := below_then2 T5 hv5
  go_wp2_with fail
  refine (toTallyS_any a cap ts _ (rc_to HR.out U5) hl).mono ?_
  rintro e w6 ⟨A6, c6, rfl, o6, hb6⟩
  have O6 := Lib.hid o6
  have hb6' := below_then2 hv5 hb6
  have T6 := below_then2 T5 hb6'
  have O46 := Lib.hid ((OR.below O4.out hb5 (Nat.le_refl _)).below hb6' (Nat.le_refl _))
  clear o6 hb6
  go_wp2_with fail
  refine (eqTallyS_yes A4 A6 c4 c6 ts _ (OR.rd O46.out) (OR.rd O6.out) hl).mono ?_
  rintro e w7 ⟨rfl, hb7⟩
  have T7 := below_then2 T6 hb7
  go_wp2_with fail
  refine (markTallyS_any w3.heap.size A4 c4 ts 1 _ (OR.below O46.out hb7 (Nat.le_refl _)) hl (by omega) (by omega)).mono ?_
  rintro e w8 ⟨rfl, -, hg8⟩
  have sp3 := OR.span O3.out
  have sp4 := OR.span O4.out
  have sp5 := OR.span O5.out
  have z1 := T2.size
  have z3 := T3.size
  have z4 := T4.size
  have ne43 : ∀ g, A3.map (·.block) = some g → A4.map (·.block) ≠ some g := fun g e e' => by have := sp3 g e; have := sp4 g e'; omega
  have ne45 : ∀ g, A5.map (·.block) = some g → A4.map (·.block) ≠ some g := fun g e e' => by have := sp5 g e; have := sp4 g e'; omega
  have ne53 : ∀ g, A3.map (·.block) = some g → A5.map (·.block) ≠ some g := fun g e e' => by have := sp3 g e; have := sp5 g e'; have := hb4.size; omega
  have T8 := below_of_grown T7 hg8 (fun g e => by have := sp4 g e; omega)
  have R38 := Lib.hid (rc_grown (rc_to (rc_to R3.out hb6') hb7) hg8 ne43)
  have O58 := Lib.hid (((OR.below O5.out hb6' (Nat.le_refl _)).below hb7 (Nat.le_refl _)).grown hg8 ne45)
  have SP := Lib.hid (And.intro sp5 (And.intro ne43 (And.intro ne45 ne53)))
  clear sp3 sp4 sp5 ne43 ne45 ne53
  go_wp2_with fail
  refine (eqTallyS_yes A5 A3 c5 c3 zs _ (OR.rd O58.out) R38.out (by omega)).mono ?_
  rintro e v8 ⟨rfl, hv8⟩
  have U8 := below_then2 T8 hv8
  go_wp2_with fail
  refine (markTallyS_any w4.heap.size A5 c5 zs 1 _ (OR.below O58.out hv8 (Nat.le_refl _)) (by omega) (by omega) (by omega)).mono ?_
  rintro e w9 ⟨rfl, o9, hg9⟩
  have O9 := Lib.hid o9
  have T9 := below_of_grown U8 hg9 (fun g e => by have := SP.out.1 g e; omega)
  have R39 := Lib.hid (rc_grown (rc_to R38.out hv8) hg9 SP.out.2.2.2)
  have hrd9 := Lib.hid (OR.rd O9.out)
  clear o9 hg9
  go_wp2_with fail
  refine (heldTallyS_any A5 c5 zs.length 1 _ hrd9.out (by omega) (by omega) (by omega)).mono ?_
  rintro e v9 ⟨rfl, hv9⟩
  have U9 := below_then2 T9 hv9
  go_wp2_with fail
  refine (toTallyS_any a cap ts _ (rc_to HR.out U9) hl).mono ?_
  rintro e w10 ⟨A10, c10, rfl, o10, hb10⟩
  have O10 := Lib.hid o10
  have T10 := below_then2 U9 hb10
  clear o10
  go_wp2_with fail
  refine (iT A10 c10 _ (OR.rd O10.out)).mono ?_
  rintro e w11 ⟨A11, c11, rfl, o11, hb11⟩
  have O11 := Lib.hid o11
  have T11 := below_then2 T10 hb11
  have R311 := Lib.hid (rc_to (rc_to (rc_to R39.out hv9) hb10) hb11)
  have hrd11 := Lib.hid (rc_to (rc_to (rc_to hrd9.out hv9) hb10) hb11)
  clear o11
  go_wp2_with fail
  refine (eqTallyS_yes A11 A3 c11 c3 zs _ (OR.rd O11.out) R311.out (by omega)).mono ?_
  rintro e v11 ⟨rfl, hv11⟩
  have U11 := below_then2 T11 hv11
  go_wp2_with fail
  refine (heldTallyS_any A5 c5 zs.length 1 _ (rc_to hrd11.out hv11) (by omega) (by omega) (by omega)).mono ?_
  rintro e w12 ⟨rfl, hb12⟩
  go_wp2_with fail
  go_ret
  exact ⟨rfl, below_then2 U11 hb12⟩

end Go.Proofs.Ytahlflennmdckaa
