/- The walks of the reference's l6yOwes and TalliesMerge. -/
import Derived.Test.YtahlflennmdckaaTalS
import Derived.Test.YtahlflennmdckaaTalF
import Derived.Test.YtahlflennmdckaaTalQ
namespace Go.Proofs.Ytahlflennmdckaa
open Go.RowKit Go.PlainAid
set_option linter.unusedVariables false
set_option linter.unusedSimpArgs false

theorem owes_snoc (ts : List Tal) (t : Tal) (i j : Int) : owes (ts ++ [t]) i j = owes ts i j + ow i j t := by rw [owes_append]; simp [owes]

set_option maxHeartbeats 2000000 in
theorem l6yOwes_any (A : Option Addr) (c : Nat) (ts : List Tal) (i j : Int) (w : World) (B : Nat) (h : TR w B A ts) (hs : TS ts) (hv : tvB ts = true) :
    Calls Try.prog 78 #[.slice A ts.length c, .int .i64 i, .int .i64 j] w fun e w' => e = .returned (.int .i64 (owes ts i j)) ∧ w = w' := by
  obtain ⟨hl, hok⟩ := tv_yes hv
  have HOK := Lib.hid hok
  have HT := Lib.hid h
  have HS := Lib.hid hs
  clear hv hok h hs
  go_enter Try.func78, Try.ntmps78
  go_wp2
  go_loop [7, 8] (fun n q => ∃ k : Nat, k ≤ ts.length ∧ q = .int .i64 k ∧ n = .int .i64 (owes (ts.take k) i j)) (fun _ q => ts.length - (intOf q).toNat)
  case atStart => exact ⟨0, Nat.zero_le _, rfl, rfl⟩
  case round =>
    obtain ⟨k, hk, rfl, rfl⟩ := hrel
    by_cases hlt : k < ts.length
    · obtain ⟨b, off, rfl, hbb, t0, t1, t2, t3⟩ := TR.at_ HT.out hlt
      have htok := HOK.out _ (tx_mem ts hlt)
      have hsz := HS.out.at_ hlt
      have hsum := fun w => l6ySum (tx ts k).s w hsz
      rw [lsz_tok htok] at hsum
      have hbd := owes_bd i j (ts.take k)
      have hwb := wt_bd (tx ts k)
      have hlk : ((ts.take k).length : Int) ≤ 12 := by rw [List.length_take]; omega
      have hnext := Lib.hid (show owes (ts.take (k + 1)) i j = owes (ts.take k) i j + ow i j (tx ts k) by rw [tx_take ts hlt, owes_snoc])
      unfold ow at hnext
      clear htok
      generalize wt (tx ts k) = x at *
      generalize owes (ts.take k) i j = p at *
      generalize (tx ts k) = T at *
      obtain ⟨d, c', s, f⟩ := T
      simp only at t0 t1 t2 t3 hsum hnext hsz
      by_cases hd : d = i
      · by_cases hc : c' = j
        · subst hd hc
          have HP := Lib.hid (show owes (ts.take (k + 1)) d c' = p + x by rw [hnext.out, if_pos ⟨rfl, rfl⟩])
          go_wp2_with (go_at_call 52; (with_reducible refine (hsum _).mono ?_); rintro e w' ⟨rfl, rfl⟩)
          go_round
          case rel => exact ⟨k + 1, by omega, by go_num, by rw [HP.out]⟩
          case measure => simp [intOf] <;> omega
        · subst hd
          have HP := Lib.hid (show owes (ts.take (k + 1)) d j = p by rw [hnext.out, if_neg (fun e => hc e.2), Int.add_zero])
          have hc' : (c' == j) = false := beq_eq_false_iff_ne.2 hc
          clear hc
          go_wp2_with fail
          go_round
          case rel => exact ⟨k + 1, by omega, by go_num, by rw [HP.out]⟩
          case measure => simp [intOf] <;> omega
      · have HP := Lib.hid (show owes (ts.take (k + 1)) i j = p by rw [hnext.out, if_neg (fun e => hd e.1), Int.add_zero])
        have hd' : (d == i) = false := beq_eq_false_iff_ne.2 hd
        clear hd
        go_wp2_with fail
        go_round
        case rel => exact ⟨k + 1, by omega, by go_num, by rw [HP.out]⟩
        case measure => simp [intOf] <;> omega
    · have HE := Lib.hid (show k = ts.length by omega)
      go_wp2_with fail
      go_ret
      exact ⟨ret_int (by rw [HE.out, List.take_of_length_le (Nat.le_refl _)]), rfl⟩

/-- A list of tallies and a bool. -/
def RetTB (w : World) (ts : List Tal) (b : Bool) (e : Ending) (w' : World) : Prop := ∃ A c, e = .returned (.tuple #[.slice A ts.length c, .bool b]) ∧ TI w' w.heap.size A c ts ∧ Below w.heap.size w w'
theorem ti_none (w : World) : OR (w.alloc (.cells #[] 36)) w.heap.size 36 4 (some ⟨w.heap.size, 0, none⟩) 0 0 [] :=
  World.ownsRow_lit w #[] 0 (Nat.le_refl _) (by simp [maxLen]) rfl
theorem ti_none' (w : World) (k : Nat) (hk : k = w.heap.size) : OR (w.alloc (.cells #[] 36)) w.heap.size 36 4 (some ⟨k, 0, none⟩) 0 0 [] := by subst hk; exact ti_none w
theorem ti_nil (w : World) (B : Nat) : TI w B none 0 [] := OR.nil_ w B _ _
theorem rows_mem {i j : Nat} (h : i < j) (hj : j < 5) : (i, j) ∈ rows 5 := by
  rw [rows5]
  have h1 : i = 0 ∨ i = 1 ∨ i = 2 ∨ i = 3 := by omega
  have h2 : j = 1 ∨ j = 2 ∨ j = 3 ∨ j = 4 := by omega
  rcases h1 with e | e | e | e <;> rcases h2 with e' | e' | e' | e' <;> first | (exfalso; omega) | (subst e; subst e'; decide)
theorem mok_no {ts : List Tal} {i j : Nat} (h : i < j) (hj : j < 5) (hb : inB (dif ts i j) = false) : meB ts = false := by
  have : mokB ts (rows 5) = false := by
    cases hm : mokB ts (rows 5) with
    | false => rfl
    | true =>
      unfold mokB at hm
      have := List.all_eq_true.1 hm _ (rows_mem h hj)
      simp only at this
      rw [hb] at this; cases this
  unfold meB; rw [this, Bool.and_false]
theorem me_tv {ts : List Tal} (h : tvB ts = false) : meB ts = false := by unfold meB; rw [h]; rfl
/-- The pairs ahead of (i, j) are served. -/
def Sofar (ts : List Tal) (i j : Nat) (out : List Tal) : Prop := out = mrg ts (rows i ++ rowp i j) ∧ mokB ts (rows i ++ rowp i j) = true ∧ out.length ≤ 30
theorem sofar_start (ts : List Tal) : Sofar ts 0 1 [] := ⟨by simp [rows, rowp_start, mrg], by simp [rows, rowp_start, mokB], by simp⟩
theorem sofar_row {ts : List Tal} {i : Nat} {out : List Tal} (h : Sofar ts i 5 out) : Sofar ts (i + 1) (i + 1 + 1) out := by
  obtain ⟨h1, h2, h3⟩ := h
  refine ⟨?_, ?_, h3⟩
  · rw [rowp_start, List.append_nil]; exact h1
  · rw [rowp_start, List.append_nil]; exact h2
theorem sofar_len {ts : List Tal} {i j : Nat} (hi : i ≤ 5) (hj : j ≤ 5) : (mrg ts (rows i ++ rowp i j)).length ≤ 30 := by
  have h1 := mrg_len ts (rows i ++ rowp i j)
  have k1 : (rows i).length ≤ 20 := by
    have : i = 0 ∨ i = 1 ∨ i = 2 ∨ i = 3 ∨ i = 4 ∨ i = 5 := by omega
    rcases this with e | e | e | e | e | e <;> subst e <;> decide
  have k2 : (rowp i j).length ≤ 5 := by simp [rowp]; omega
  rw [List.length_append] at h1
  omega
theorem sofar_next {ts : List Tal} {i j : Nat} {out : List Tal} (h : Sofar ts i j out) (hij : i < j) (hj : j < 5) (hb : inB (dif ts i j) = true) : Sofar ts i (j + 1) (out ++ one i j (dif ts i j)) := by
  obtain ⟨h1, h2, h3⟩ := h
  have e : rows i ++ rowp i (j + 1) = (rows i ++ rowp i j) ++ [(i, j)] := by rw [rowp_next hij, List.append_assoc]
  have e2 : mrg ts (rows i ++ rowp i (j + 1)) = out ++ one i j (dif ts i j) := by rw [e, mrg_append, mrg_one, ← h1]
  refine ⟨e2.symm, ?_, ?_⟩
  · rw [e]; unfold mokB at h2 ⊢; rw [List.all_append, h2]; simpa using hb
  · rw [← e2]; exact sofar_len (by omega) (by omega)
theorem sofar_end {ts : List Tal} {out : List Tal} (h : Sofar ts 5 6 out) (hv : tvB ts = true) : meB ts = true ∧ meR ts = out := by
  obtain ⟨h1, h2, _⟩ := h
  rw [rowp_start, List.append_nil] at h1 h2
  have hm : meB ts = true := by unfold meB; rw [hv, h2]; rfl
  exact ⟨hm, by rw [(me_yes hm).1, h1]⟩

theorem neg_row {wr w2 w3 : World} {B n c : Nat} {A : Option Addr} {cs : List Value} {o : Obj} (ho : OR wr B 36 4 A c n cs) (hb2 : Below wr.heap.size wr w2) (hb3 : Below (w2.alloc o).heap.size (w2.alloc o) w3) (x0 x1 x2 x3 : Value) :
    OR ((((w3.setCell ⟨w2.heap.size, 0, none⟩ x0).setCell ⟨w2.heap.size, 1, none⟩ x1).setCell ⟨w2.heap.size, 2, none⟩ x2).setCell ⟨w2.heap.size, 3, none⟩ x3) B 36 4 A c n cs := by
  have sp := ho.span
  have hs := hb2.size
  have ne : ∀ g, A.map (·.block) = some g → w2.heap.size ≠ g := fun g e => by have := sp g e; omega
  exact ((((((OR.below ho hb2 (Nat.le_refl _)).alloc o).below hb3 (Nat.le_refl _)).far (p := ⟨w2.heap.size, 0, none⟩) ne x0).far (p := ⟨w2.heap.size, 1, none⟩) ne x1).far (p := ⟨w2.heap.size, 2, none⟩) ne x2).far (p := ⟨w2.heap.size, 3, none⟩) ne x3

set_option maxHeartbeats 8000000 in
theorem sTalliesMerge (A : Option Addr) (c : Nat) (ts : List Tal) (w : World) (h : TR w w.heap.size A ts) (hs : TS ts) (hl : ts.length ≤ 2000000) :
    Calls Try.prog 46 #[.slice A ts.length c] w (RetTB w (meR ts) (meB ts)) := by
  have HT := Lib.hid h
  have HS := Lib.hid hs
  clear h hs
  have c1 := fun w1 (hb1 : Below w.heap.size w w1) => sTalliesValid A c ts w1 ((RC.below HT.out hb1 (Nat.le_refl _)).mono hb1.size) HS.out hl
  have bN : Below w.heap.size w (w.alloc (.cells #[] 36)) := (Below.refl _ _).alloc (Nat.le_refl _) _
  cases hv : tvB ts with
  | false =>
    rw [hv] at c1
    rw [me_no (me_tv hv), me_tv hv]
    clear hv
    go_enter Try.func46, Try.ntmps46
    go_wp2_with (go_at_call 67; refine (c1 _ bN).mono ?_; rintro e w1 ⟨rfl, hb1⟩)
    go_ret2
    exact ⟨_, _, rfl, (ti_none w).below hb1 (Nat.le_refl _), below_then2 bN hb1⟩
  | true =>
    rw [hv] at c1
    obtain ⟨V, hV⟩ : ∃ V, meB ts = V := ⟨_, rfl⟩
    obtain ⟨R, hR⟩ : ∃ R, meR ts = R := ⟨_, rfl⟩
    rw [hV, hR]
    have HV := Lib.hid hV
    have HR := Lib.hid hR
    have HX := Lib.hid hv
    have hlen := (tv_yes hv).1
    clear hV hR hv
    go_enter Try.func46, Try.ntmps46
    go_wp2_with (go_at_call 67; refine (c1 _ bN).mono ?_; rintro e w1 ⟨rfl, hb1⟩)
    have b1 := below_then2 bN hb1
    have o1 : OR w1 w.heap.size 36 4 (some ⟨w.heap.size, 0, none⟩) 0 0 [] := (ti_none w).below hb1 (Nat.le_refl _)
    go_loopw [4, 5, 6, 7, 8, 9] (fun s a _ _ _ _ wr => ∃ (i : Nat) (out : List Tal) (A' : Option Addr) (c' : Nat), i ≤ 5 ∧ a = .int .i64 i ∧ s = .slice A' out.length c' ∧ TI wr w.heap.size A' c' out ∧ Hid (Sofar ts i (i + 1) out) ∧ Below w.heap.size w wr) (fun _ a _ _ _ _ _ => 5 - (intOf a).toNat)
    case atStart => exact ⟨0, [], _, _, by omega, rfl, rfl, o1, sofar_start ts, b1⟩
    case round =>
      obtain ⟨i, out, A', c', hi, rfl, rfl, ho, hso, hb⟩ := hrel
      clear o1
      by_cases hi5 : i < 5
      · obtain ⟨wo, rfl⟩ : ∃ wo : World, wo = wr := ⟨_, rfl⟩
        have q1 : decide ((i : Int) < 5) = true := by simp; omega
        go_wp2_with fail
        go_loopw [4, 6, 7, 8, 9] (fun s b _ _ _ wr => ∃ (j : Nat) (out : List Tal) (A' : Option Addr) (c' : Nat), i < j ∧ j ≤ 5 ∧ b = .int .i64 j ∧ s = .slice A' out.length c' ∧ TI wr w.heap.size A' c' out ∧ Hid (Sofar ts i j out) ∧ Below w.heap.size w wr) (fun _ b _ _ _ _ => 5 - (intOf b).toNat)
        case atStart => exact ⟨i + 1, out, A', c', by omega, by omega, by go_num, rfl, ho, hso, hb⟩
        case round =>
          clear ho hso hb
          obtain ⟨j, out, A', c', hij, hj, rfl, rfl, ho, hso, hb⟩ := hrel
          by_cases hj5 : j < 5
          · have q1 : decide ((j : Int) < 5) = true := by simp; omega
            have hol : out.length ≤ 30 := hso.out.2.2
            have o1 := fun (u v : Int) => l6yOwes_any A c ts u v wr w.heap.size (RC.below HT.out hb (Nat.le_refl _)) HS.out HX.out
            have oa := o1 i j
            have ob := o1 j i
            have p0 := owes_bd i j ts
            have p1 := owes_bd j i ts
            have hlen' : (ts.length : Int) ≤ 12 := by omega
            have hn := Lib.hid (fun h => sofar_next hso.out hij hj5 h)
            have hf := Lib.hid (fun h => mok_no (ts := ts) hij hj5 h)
            unfold dif at hn hf
            have htw : twoB i j = true := by unfold twoB; simp; omega
            have HW := Lib.hid htw
            have hB0 : w.heap.size ≤ wr.heap.size := hb.size
            clear o1 htw
            generalize owes ts i j = p at *
            generalize owes ts j i = q at *
            obtain ⟨x, hx⟩ : ∃ x, p - q = x := ⟨_, rfl⟩
            have hnx : Hid (inB x = true → Sofar ts i (j + 1) (out ++ one i j x)) := fun h => by have := hn.out; rw [hx] at this; exact this h
            have hfx : Hid (inB x = false → meB ts = false) := fun h => by have := hf.out; rw [hx] at this; exact this h
            have hxb : -240000 ≤ x ∧ x ≤ 240000 := by omega
            clear hn hf
            have ci := fun w => sTallyNew i j x w
            have cj := fun w => sTallyNew j i (0 - x) w
            unfold TalPost at ci cj
            have hcase : x = 0 ∨ (1 ≤ x ∧ x ≤ 9999) ∨ 9999 < x ∨ (x < 0 ∧ -9999 ≤ x) ∨ x < -9999 := by omega
            rcases hcase with h | ⟨h1, h9⟩ | h9 | ⟨h1, h9⟩ | h9
            · subst h
              have hsn := Lib.hid (hnx.out rfl)
              rw [one_zero, List.append_nil] at hsn
              clear ci cj
              go_wp2_with (first | (go_at_call 78; (with_reducible refine oa.mono ?_); rintro e w' ⟨rfl, rfl⟩) | (go_at_call 78; (with_reducible refine ob.mono ?_); rintro e w' ⟨rfl, rfl⟩))
              clear hx
              go_roundw
              case rel => exact ⟨j + 1, out, A', c', by omega, by omega, by go_num, rfl, ho, hsn.out, hb⟩
              case measure => simp [intOf] <;> omega
            · have hin : inB x = true := by unfold inB; simp; omega
              have hsn := Lib.hid (hnx.out hin)
              rw [one_pos (by omega)] at hsn
              have htn : tnB i j x = true := by unfold tnB; rw [HW.out]; simp; omega
              rw [tn_yes htn, htn] at ci
              have HC := Lib.hid (tcells_append out [mkT i j x])
              unfold mkT at ci
              simp only at ci
              have hnx0 : ¬ x < 0 := by omega
              have hx0 : (x == 0) = false := beq_eq_false_iff_ne.2 (by omega)
              obtain ⟨S, hS⟩ : ∃ S, ntx x.toNat = S := ⟨_, rfl⟩
              rw [hS] at ci
              have HSS := Lib.hid hS
              clear hin htn cj hS
              go_wp2_with (first | (go_at_call 78; (with_reducible refine oa.mono ?_); rintro e w' ⟨rfl, rfl⟩) | (go_at_call 78; (with_reducible refine ob.mono ?_); rintro e w' ⟨rfl, rfl⟩) | (go_at_call 26; (with_reducible refine (ci _).mono ?_); rintro e w2 ⟨rfl, hb2⟩; have ho2 := (OR.below ho hb2 (Nat.le_refl _)).alloc (.cells #[.int .i64 (i : Int), .int .i64 (j : Int), .string S, .string S] 36); have hB2 : w.heap.size ≤ (w2.alloc (.cells #[.int .i64 (i : Int), .int .i64 (j : Int), .string S, .string S] 36)).heap.size := (by have := hb2.size; simp; omega)) | (at_builtin; refine wpList_pushC rfl _ _ 46 36 rfl _ 4 48 tally_info Try.underlying46 rfl (by omega) (by omega) rfl (by simp [Value.oneCell']) w.heap.size A' c' out.length _ rfl ho2 (w2.heap.size + 1) rfl (by simp) (by omega) hB2 ?_; intro A2 c2 w4 hown4 hg4 hb4 _))
              go_roundw
              case rel =>
                refine ⟨j + 1, out ++ [mkT i j x], A2, c2, by omega, by omega, by go_num, by simp, ?_, hsn.out, ((below_then2 hb hb2).alloc (by have := hb2.size; omega) _).trans hb4⟩
                unfold TI
                rw [HC.out, List.length_append]
                have e : tcells [mkT i j x] = [.int .i64 (i : Int), .int .i64 (j : Int), .string S, .string S] := by rw [← HSS.out]; rfl
                rw [e]; exact hown4
              case measure => simp [intOf] <;> omega
            · have hff := Lib.hid (hfx.out (by unfold inB; simp; omega))
              have htn : tnB i j x = false := by unfold tnB; simp; omega
              rw [tn_no htn, htn] at ci
              have hnx0 : ¬ x < 0 := by omega
              have hx0 : (x == 0) = false := beq_eq_false_iff_ne.2 (by omega)
              clear htn cj
              go_wp2_with (first | (go_at_call 78; (with_reducible refine oa.mono ?_); rintro e w' ⟨rfl, rfl⟩) | (go_at_call 78; (with_reducible refine ob.mono ?_); rintro e w' ⟨rfl, rfl⟩) | (go_at_call 26; (with_reducible refine (ci _).mono ?_); rintro e w2 ⟨rfl, hb2⟩))
              go_ret2
              have hVf : V = false := by rw [← HV.out]; exact hff.out
              have hRn : R = [] := by rw [← HR.out]; exact me_no hff.out
              have hb3 := (below_then2 hb hb2).alloc (by have := hb2.size; omega) (.cells #[.int .i64 tal0.d, .int .i64 tal0.c, .string tal0.s, .string tal0.f] 36)
              exact ⟨_, _, by rw [hVf, hRn]; rfl, by rw [hRn]; exact (ti_none' _ _ (by simp)).mono hb3.size, hb3.alloc hb3.size _⟩
            · have hin : inB x = true := by unfold inB; simp; omega
              have hsn := Lib.hid (hnx.out hin)
              rw [one_neg (by omega)] at hsn
              have htn : tnB i j x = false := by unfold tnB; simp; omega
              have htn2 : tnB j i (0 - x) = true := by unfold tnB; rw [two_sym HW.out]; simp; omega
              rw [tn_no htn, htn] at ci
              rw [tn_yes htn2, htn2] at cj
              have HC := Lib.hid (tcells_append out [mkT j i (0 - x)])
              have hx0 : (x == 0) = false := beq_eq_false_iff_ne.2 (by omega)
              unfold mkT at cj
              simp only at cj
              obtain ⟨S, hS⟩ : ∃ S, ntx (0 - x).toNat = S := ⟨_, rfl⟩
              rw [hS] at cj
              have HSS := Lib.hid hS
              have e0 : (0 - x : Int) = -x := by omega
              rw [e0] at cj
              clear hin htn htn2 hS e0
              have spn := OR.span ho
              go_wp2_with (first | (go_at_call 78; (with_reducible refine oa.mono ?_); rintro e w' ⟨rfl, rfl⟩) | (go_at_call 78; (with_reducible refine ob.mono ?_); rintro e w' ⟨rfl, rfl⟩) | (go_at_call 26; (with_reducible refine (ci _).mono ?_); rintro e w2 ⟨rfl, hb2⟩) | (go_at_call 26; (with_reducible refine (cj _).mono ?_); rintro e w3 ⟨rfl, hb3⟩; obtain ⟨hc3, hf3⟩ := bcell hb3; have hz3 : w2.heap.size < w3.heap.size := (by have := hb3.size; simp at this; omega); have ho3 := Lib.hid (neg_row ho hb2 hb3 (.int .i64 (j : Int)) (.int .i64 (i : Int)) (.string S) (.string S)); have hB3 : w.heap.size ≤ ((((w3.setCell ⟨w2.heap.size, 0, none⟩ (.int .i64 (j : Int))).setCell ⟨w2.heap.size, 1, none⟩ (.int .i64 (i : Int))).setCell ⟨w2.heap.size, 2, none⟩ (.string S)).setCell ⟨w2.heap.size, 3, none⟩ (.string S)).heap.size := (by have := hb2.size; simp [World.setCell]; omega)) | (at_builtin; refine wpList_pushC rfl _ _ 46 36 rfl _ 4 48 tally_info Try.underlying46 rfl (by omega) (by omega) rfl (by simp [Value.oneCell']) w.heap.size A' c' out.length _ rfl ho3.out w3.heap.size rfl (by simp [World.setCell]) (by omega) hB3 ?_; intro A2 c2 w4 hown4 hg4 hb4 _))
              go_roundw
              case rel =>
                refine ⟨j + 1, out ++ [mkT j i (0 - x)], A2, c2, by omega, by omega, by go_num, by simp, ?_, hsn.out, (fin4 (by have := hb2.size; omega) (below_then2 (below_then2 hb hb2) (below_box _ _ hb3)) _ _ _ _).trans hb4⟩
                unfold TI
                rw [HC.out, List.length_append]
                have e : tcells [mkT j i (0 - x)] = [.int .i64 (j : Int), .int .i64 (i : Int), .string S, .string S] := by rw [← HSS.out]; rfl
                rw [e]; exact hown4
              case measure => simp [intOf] <;> omega
            · have hff := Lib.hid (hfx.out (by unfold inB; simp; omega))
              have htn : tnB i j x = false := by unfold tnB; simp; omega
              have htn2 : tnB j i (0 - x) = false := by unfold tnB; simp; omega
              rw [tn_no htn, htn] at ci
              rw [tn_no htn2, htn2] at cj
              have hx0 : (x == 0) = false := beq_eq_false_iff_ne.2 (by omega)
              have e0 : (0 - x : Int) = -x := by omega
              rw [e0] at cj
              clear htn htn2 e0
              go_wp2_with (first | (go_at_call 78; (with_reducible refine oa.mono ?_); rintro e w' ⟨rfl, rfl⟩) | (go_at_call 78; (with_reducible refine ob.mono ?_); rintro e w' ⟨rfl, rfl⟩) | (go_at_call 26; (with_reducible refine (ci _).mono ?_); rintro e w2 ⟨rfl, hb2⟩) | (go_at_call 26; (with_reducible refine (cj _).mono ?_); rintro e w3 ⟨rfl, hb3⟩; obtain ⟨hc3, hf3⟩ := bcell hb3; have hz3 : w2.heap.size < w3.heap.size := (by have := hb3.size; simp at this; omega)))
              go_ret2
              have hVf : V = false := by rw [← HV.out]; exact hff.out
              have hRn : R = [] := by rw [← HR.out]; exact me_no hff.out
              have hb4 := fin4 (by have := hb2.size; omega) (below_then2 (below_then2 hb hb2) (below_box _ _ hb3)) (g := w2.heap.size) (.int .i64 tal0.d) (.int .i64 tal0.c) (.string tal0.s) (.string tal0.f)
              exact ⟨_, _, by rw [hVf, hRn]; rfl, by rw [hRn]; exact (ti_none' _ _ (by simp [World.setCell])).mono hb4.size, hb4.alloc hb4.size _⟩
          · have HE := Lib.hid (show j = 5 by omega)
            have q1 : decide ((j : Int) < 5) = false := by simp; omega
            go_wp2_with fail
            go_roundw
            case rel => exact ⟨i + 1, out, A', c', by omega, by go_num, rfl, ho, by have := hso.out; rw [HE.out] at this; exact sofar_row this, hb⟩
            case measure => simp [intOf] <;> omega
      · have HE := Lib.hid (show i = 5 by omega)
        have q1 : decide ((i : Int) < 5) = false := by simp; omega
        go_wp2_with fail
        go_ret2
        have hso' := hso.out
        rw [HE.out] at hso'
        obtain ⟨e1, e2⟩ := sofar_end hso' HX.out
        rw [HV.out] at e1
        rw [HR.out] at e2
        exact ⟨A', c', by rw [e1, e2]; rfl, by rw [e2]; exact ho, hb⟩

end Go.Proofs.Ytahlflennmdckaa
