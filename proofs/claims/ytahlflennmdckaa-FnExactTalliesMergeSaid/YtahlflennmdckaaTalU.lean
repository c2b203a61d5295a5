/- The walk of the law FnExactTalliesBalance. -/
import Derived.Test.YtahlflennmdckaaTalT
namespace Go.Proofs.Ytahlflennmdckaa
open Go.RowKit Go.PlainAid
set_option linter.unusedVariables false
set_option linter.unusedSimpArgs false

/-- A list of tallies that came in. -/
def TaSl (w : World) (a : Option Addr) (len cap : Nat) (ts : List Tal) : Prop := len = ts.length ∧ len ≤ cap ∧ cap ≤ maxLen ∧ TR w w.heap.size a ts ∧ TM ts
theorem rd_to {k : IntKind} {w w' : World} {A : Option Addr} {zs : List Int} (h : RD k w w.heap.size A zs) (hb : Below w.heap.size w w') : RD k w' w'.heap.size A zs := (h.below hb (Nat.le_refl _)).mono hb.size
theorem rd_grown {k : IntKind} {w w' : World} {A : Option Addr} {zs : List Int} {row : Option Nat} (h : RD k w w.heap.size A zs) (hg : w.grownBy w' row) (hne : ∀ g, A.map (·.block) = some g → row ≠ some g) : RD k w' w'.heap.size A zs := (h.grown (Nat.le_refl _) hg hne).mono hg.size
theorem rc_to {w w' : World} {A : Option Addr} {cs : List Value} (h : RC w w.heap.size A cs) (hb : Below w.heap.size w w') : RC w' w'.heap.size A cs := (h.below hb (Nat.le_refl _)).mono hb.size
theorem rc_grown {w w' : World} {A : Option Addr} {cs : List Value} {row : Option Nat} (h : RC w w.heap.size A cs) (hg : w.grownBy w' row) (hne : ∀ g, A.map (·.block) = some g → row ≠ some g) : RC w' w'.heap.size A cs := (h.grown (Nat.le_refl _) hg hne).mono hg.size
theorem below_of_grown {w w7 w8 : World} {row : Option Nat} (hb : Below w.heap.size w w7) (hg : w7.grownBy w8 row) (hr : ∀ g, row = some g → w.heap.size ≤ g) : Below w.heap.size w w8 :=
  ⟨hg.os.trans hb.os, hg.tape.trans hb.tape, hg.output.trans hb.output, Nat.le_trans hb.size hg.size, fun k hk => (hg.block k (by have := hb.size; omega) (fun e => by have := hr k e.symm; omega)).trans (hb.block k hk)⟩
theorem tbR_len (ts : List Tal) : (tbR ts).length ≤ 5 := by
  unfold tbR; split
  · rw [bals_len]; omega
  · simp
theorem bne_self_b (b : Bool) : (b != b) = false := by cases b <;> rfl

set_option maxRecDepth 100000 in
set_option maxHeartbeats 8000000 in
theorem walkFnExactTalliesBalance (a : Option Addr) (len cap : Nat) (ts : List Tal) (w : World) (hs : TaSl w a len cap ts) :
    Calls Try.prog 9 #[.slice a len cap] w fun e w' => e = .returned (.bool true) ∧ Below w.heap.size w w' := by
  obtain ⟨rfl, hlc, hcm, hR, hM⟩ := hs
  unfold maxLen at hcm
  have HR := Lib.hid hR
  clear hR
  go_enter Try.func9, Try.ntmps9
  go_wp2_with fail
  refine (szTallyS_any a cap ts _ HR.out hM (by omega)).mono ?_
  rintro e w1 ⟨u, rfl, u1, hu, hb1⟩
  by_cases hn : u < 0
  · clear hu
    go_wp2_with fail
    go_ret
    exact ⟨rfl, hb1⟩
  have HSM := hu (by omega)
  have hl : ts.length ≤ 1048576 := HSM.1
  have HTS := Lib.hid HSM.ts
  clear hu HSM hM
  obtain ⟨zs, hzs⟩ : ∃ zs, tbR ts = zs := ⟨_, rfl⟩
  have hz5 := tbR_len ts
  rw [hzs] at hz5
  obtain ⟨V, hV⟩ : ∃ V, tvB ts = V := ⟨_, rfl⟩
  have sT : ∀ (A : Option Addr) (c : Nat) (w : World), TR w w.heap.size A ts → Calls Try.prog 30 #[.slice A ts.length c] w (RetIB w zs V) := fun A c w h => by have := sTalliesBalance A c ts w h HTS.out (by omega); rw [hzs, hV] at this; exact this
  have iT : ∀ (A : Option Addr) (c : Nat) (w : World), TR w w.heap.size A ts → Calls Try.prog 32 #[.slice A ts.length c] w (RetIB w zs V) := fun A c w h => by have := iTalliesBalance A c ts w h HTS.out (by omega); rw [hzs, hV] at this; exact this
  have hbv := bne_self_b V
  clear hzs hV
  go_wp2_with fail
  refine (toTallyS_any a cap ts _ (rc_to HR.out hb1) hl).mono ?_
  rintro e w2 ⟨A2, c2, rfl, o2, hb2⟩
  have O2 := Lib.hid o2
  have T2 := below_then2 hb1 hb2
  clear o2
  go_wp2_with fail
  refine (sT A2 c2 _ (OR.rd O2.out)).mono ?_
  rintro e w3 ⟨A3, c3, rfl, o3, hb3⟩
  have O3 := Lib.hid o3
  have T3 := below_then2 T2 hb3
  clear o3
  go_wp2_with fail
  refine (toTallyS_any a cap ts _ (rc_to HR.out T3) hl).mono ?_
  rintro e w4 ⟨A4, c4, rfl, o4, hb4⟩
  have O4 := Lib.hid o4
  have T4 := below_then2 T3 hb4
  clear o4
  go_wp2_with fail
  refine (iT A4 c4 _ (OR.rd O4.out)).mono ?_
  rintro e w5 ⟨A5, c5, rfl, o5, hb5⟩
  have O5 := Lib.hid o5
  have T5 := below_then2 T4 hb5
  clear o5
  have R3 := Lib.hid (rd_to (rd_to (IR.rd O3.out) hb4) hb5)
  go_wp2_with fail
  refine (eqIntS_yes A5 A3 c5 c3 zs _ (IR.rd O5.out) R3.out (by omega)).mono ?_
  rintro e w5' ⟨rfl, n5, rfl⟩
  go_wp2_with fail
  refine (toTallyS_any a cap ts _ (show TR (w5.drewN n5) _ _ _ from rc_to HR.out (below_drewN T5 n5)) hl).mono ?_
  rintro e w6 ⟨A6, c6, rfl, o6, hb6⟩
  have O6 := Lib.hid o6
  have hb6' : Below w5.heap.size w5 w6 := ⟨hb6.os, hb6.tape, hb6.output, hb6.size, hb6.block⟩
  have T6 := below_then2 T5 hb6'
  have O46 := Lib.hid ((O4.out.below hb5 (Nat.le_refl _)).below hb6' (Nat.le_refl _))
  clear o6 hb6
  go_wp2_with fail
  refine (eqTallyS_yes A4 A6 c4 c6 ts _ (OR.rd O46.out) (OR.rd O6.out) hl).mono ?_
  rintro e w7 ⟨rfl, hb7⟩
  have T7 := below_then2 T6 hb7
  go_wp2_with fail
  refine (markTallyS_any w3.heap.size A4 c4 ts 1 _ (O46.out.below hb7 (Nat.le_refl _)) hl (by omega) (by omega)).mono ?_
  rintro e w8 ⟨rfl, -, hg8⟩
  have sp3 := O3.out.span
  have sp4 := O4.out.span
  have sp5 := O5.out.span
  have z1 := T2.size
  have z3 := T3.size
  have z4 := T4.size
  have ne43 : ∀ g, A3.map (·.block) = some g → A4.map (·.block) ≠ some g := fun g e e' => by have := sp3 g e; have := sp4 g e'; omega
  have ne45 : ∀ g, A5.map (·.block) = some g → A4.map (·.block) ≠ some g := fun g e e' => by have := sp5 g e; have := sp4 g e'; omega
  have ne53 : ∀ g, A3.map (·.block) = some g → A5.map (·.block) ≠ some g := fun g e e' => by have := sp3 g e; have := sp5 g e'; have := hb4.size; omega
  have T8 := below_of_grown T7 hg8 (fun g e => by have := sp4 g e; omega)
  have R38 := Lib.hid (rd_grown (rd_to (rd_to R3.out hb6') hb7) hg8 ne43)
  have O58 := Lib.hid (((O5.out.below hb6' (Nat.le_refl _)).below hb7 (Nat.le_refl _)).grown' hg8 ne45)
  have SP := Lib.hid (And.intro sp5 (And.intro ne43 (And.intro ne45 ne53)))
  clear sp3 sp4 sp5 ne43 ne45 ne53
  go_wp2_with fail
  refine (eqIntS_yes A5 A3 c5 c3 zs _ (IR.rd O58.out) R38.out (by omega)).mono ?_
  rintro e w8' ⟨rfl, n8, rfl⟩
  go_wp2_with fail
  refine (markIntS_any w4.heap.size A5 c5 zs 1 _ (show IR (w8.drewN n8) _ _ _ _ from O58.out) (by omega) (by omega) (by omega)).mono ?_
  rintro e w9 ⟨rfl, o9, hg9⟩
  have O9 := Lib.hid o9
  have hg9' : w8.grownBy w9 (A5.map (·.block)) := ⟨hg9.os, hg9.tape, hg9.output, hg9.size, hg9.block⟩
  have T9 := below_of_grown T8 hg9' (fun g e => by have := SP.out.1 g e; omega)
  have R39 := Lib.hid (rd_grown R38.out hg9' SP.out.2.2.2)
  have hrd9 := Lib.hid (IR.rd O9.out)
  clear o9 hg9
  go_wp2_with fail
  refine (heldIntS_any A5 c5 zs.length 1 _ hrd9.out (by omega) (by omega) (by omega)).mono ?_
  rintro e w9' ⟨rfl, rfl⟩
  go_wp2_with fail
  refine (toTallyS_any a cap ts _ (rc_to HR.out T9) hl).mono ?_
  rintro e w10 ⟨A10, c10, rfl, o10, hb10⟩
  have O10 := Lib.hid o10
  have T10 := below_then2 T9 hb10
  clear o10
  go_wp2_with fail
  refine (iT A10 c10 _ (OR.rd O10.out)).mono ?_
  rintro e w11 ⟨A11, c11, rfl, o11, hb11⟩
  have O11 := Lib.hid o11
  have T11 := below_then2 T10 hb11
  have R311 := Lib.hid (rd_to (rd_to R39.out hb10) hb11)
  have hrd11 := Lib.hid (rd_to (rd_to hrd9.out hb10) hb11)
  clear o11
  go_wp2_with fail
  refine (eqIntS_yes A11 A3 c11 c3 zs _ (IR.rd O11.out) R311.out (by omega)).mono ?_
  rintro e w11' ⟨rfl, n11, rfl⟩
  go_wp2_with fail
  refine (heldIntS_any A5 c5 zs.length 1 _ (show RD .i64 (w11.drewN n11) _ _ _ from hrd11.out) (by omega) (by omega) (by omega)).mono ?_
  rintro e w12 ⟨rfl, rfl⟩
  go_wp2_with fail
  go_ret
  exact ⟨rfl, below_drewN T11 n11⟩

end Go.Proofs.Ytahlflennmdckaa
