/- The walks of sameInts and sumOf; the law FnBalance. -/
import Derived.Test.YtahlflennmdckaaTalW
namespace Go.Proofs.Ytahlflennmdckaa
open Go.RowKit Go.PlainAid
set_option linter.unusedVariables false
set_option linter.unusedSimpArgs false

theorem rd_to' {k : IntKind} {w w' : World} {A : Option Addr} {zs : List Int} (h : RD k w w.heap.size A zs) (hb : Below w.heap.size w w') : RD k w' w'.heap.size A zs := (h.below hb (Nat.le_refl _)).mono hb.size
theorem rc_to' {w w' : World} {A : Option Addr} {cs : List Value} (h : RC w w.heap.size A cs) (hb : Below w.heap.size w w') : RC w' w'.heap.size A cs := (h.below hb (Nat.le_refl _)).mono hb.size
set_option maxHeartbeats 400000 in
theorem sameInts_yes (A C : Option Addr) (c d : Nat) (zs : List Int) (w : World) (h : RD .i64 w w.heap.size A zs) (h' : RD .i64 w w.heap.size C zs) (hl : zs.length ≤ 1048576) :
    Calls Try.prog 39 #[.slice A zs.length c, .slice C zs.length d] w fun e w' => e = .returned (.bool true) ∧ ∃ n, w' = w.drewN n := by
  go_enter Try.func39, Try.ntmps39
  go_wp2
  go_loopw [5] (fun i wr => ∃ k : Nat, k ≤ zs.length ∧ i = .int .i64 k ∧ ∃ n, wr = w.drewN n) (fun i _ => zs.length - (intOf i).toNat)
  case atStart => exact ⟨0, Nat.zero_le _, rfl, 0, rfl⟩
  case round =>
    obtain ⟨k, hk, rfl, n, rfl⟩ := hrel
    by_cases hlt : k < zs.length
    · obtain ⟨b, off, rfl, hbb, hc⟩ := h.at_ (i := k) hlt
      obtain ⟨b', off', rfl, hbb', hc'⟩ := h'.at_ (i := k) hlt
      go_wp2
      go_quiet (fail)
      go_wp2
      go_roundw
      case rel => exact ⟨k + 1, by omega, by go_num, _, rfl⟩
      case measure => simp [intOf] <;> omega
    · have HE := Lib.hid (show k = zs.length by omega)
      go_wp2
      go_ret
      exact ⟨rfl, n, rfl⟩
/-- The sum of the first k. -/
def sumI (zs : List Int) : Nat → Int
  | 0 => 0
  | k + 1 => sumI zs k + ix zs k
theorem sumI_bd (zs : List Int) (h : ∀ i, -1000000 ≤ ix zs i ∧ ix zs i ≤ 1000000) : ∀ k : Nat, -1000000 * (k : Int) ≤ sumI zs k ∧ sumI zs k ≤ 1000000 * (k : Int)
  | 0 => by simp [sumI]
  | k + 1 => by
    have := sumI_bd zs h k
    have := h k
    simp only [sumI]
    omega
theorem sumOf_any (A : Option Addr) (c : Nat) (zs : List Int) (w : World) (h : RD .i64 w w.heap.size A zs) (hl : zs.length ≤ 1000) (hb : ∀ i, -1000000 ≤ ix zs i ∧ ix zs i ≤ 1000000) :
    Calls Try.prog 41 #[.slice A zs.length c] w fun e w' => e = .returned (.int .i64 (sumI zs zs.length)) ∧ w = w' := by
  have HB := Lib.hid hb
  clear hb
  go_enter Try.func41, Try.ntmps41
  go_wp2
  go_loop [3, 4] (fun n i => ∃ k : Nat, k ≤ zs.length ∧ i = .int .i64 k ∧ n = .int .i64 (sumI zs k)) (fun _ i => zs.length - (intOf i).toNat)
  case atStart => exact ⟨0, Nat.zero_le _, rfl, rfl⟩
  case round =>
    obtain ⟨k, hk, rfl, rfl⟩ := hrel
    by_cases hlt : k < zs.length
    · obtain ⟨b, off, rfl, hbb, hc⟩ := h.at_ (i := k) hlt
      have h1 := sumI_bd zs HB.out k
      have h2 := HB.out k
      have HN := Lib.hid (show sumI zs (k + 1) = sumI zs k + ix zs k from rfl)
      generalize sumI zs k = p at *
      generalize ix zs k = x at *
      go_wp2
      go_round
      case rel => exact ⟨k + 1, by omega, by go_num, by rw [HN.out]⟩
      case measure => simp [intOf] <;> omega
    · have HE := Lib.hid (show k = zs.length by omega)
      go_wp2
      go_ret
      exact ⟨ret_int (by rw [HE.out]), rfl⟩
theorem sumI_bals (ts : List Tal) : sumI (bals ts) 5 = balP ts 0 + balP ts 1 + balP ts 2 + balP ts 3 + balP ts 4 := by
  simp [sumI, bals, ix]

theorem tv_take {ts : List Tal} (h : tvB ts = true) (k : Nat) : tvB (ts.take k) = true := tv_mk (by have := (tv_yes h).1; rw [List.length_take]; omega) fun t ht => (tv_yes h).2 t (List.mem_of_mem_take ht)
theorem tv_drop {ts : List Tal} (h : tvB ts = true) (k : Nat) : tvB (ts.drop k) = true := tv_mk (by have := (tv_yes h).1; rw [List.length_drop]; omega) fun t ht => (tv_yes h).2 t (List.mem_of_mem_drop ht)
theorem ts_take {ts : List Tal} (h : TS ts) (k : Nat) : TS (ts.take k) := fun t ht => h t (List.mem_of_mem_take ht)
theorem ts_drop {ts : List Tal} (h : TS ts) (k : Nat) : TS (ts.drop k) := fun t ht => h t (List.mem_of_mem_drop ht)
theorem bal_split (ts : List Tal) (k : Nat) (p : Int) : balP (ts.take k) p + balP (ts.drop k) p = balP ts p := by rw [← balP_append, List.take_append_drop]
theorem tr_take {w : World} {B : Nat} {A : Option Addr} {ts : List Tal} (h : TR w B A ts) (k : Nat) : TR w B A (ts.take k) := by
  have := RC.take h (k * 4)
  rw [tcells_take] at this
  exact this
theorem tr_drop {w : World} {B b off : Nat} {ts : List Tal} (h : TR w B (some ⟨b, off, none⟩) ts) (k : Nat) : TR w B (some ⟨b, off + k * 4, none⟩) (ts.drop k) := by
  have := RC.drop h (k * 4)
  rw [tcells_drop] at this
  exact this
/-- Where a row of tallies lies. -/
theorem TI.where_ {w : World} {B c : Nat} {A : Option Addr} {ts : List Tal} (h : TI w B A c ts) : (A = none ∧ ts = [] ∧ c = 0) ∨ ∃ g, A = some ⟨g, 0, none⟩ := by
  rcases h.2 with ⟨e, h0⟩ | ⟨g, cap, cur, e, _⟩
  · injection e with e1 e2 e3
    exact .inl ⟨e1, List.length_eq_zero_iff.1 h0, e3⟩
  · injection e with e1 e2 e3
    exact .inr ⟨g, e1⟩

theorem iTB5 (A : Option Addr) (c n : Nat) (ts : List Tal) (w : World) (hn : ts.length = n) (h : TR w w.heap.size A ts) (hs : TS ts) (hv : tvB ts = true) :
    Calls Try.prog 32 #[.slice A n c] w fun e w' => ∃ A' c', e = .returned (.tuple #[.slice A' 5 c', .bool true]) ∧ IR w' w.heap.size A' c' (bals ts) ∧ Below w.heap.size w w' := by
  subst hn
  have := iTalliesBalance A c ts w h hs (by have := (tv_yes hv).1; omega)
  rw [tb_yes hv, hv] at this
  exact this

theorem iTT (A : Option Addr) (c n : Nat) (ts : List Tal) (w : World) (hn : ts.length = n) (h : TR w w.heap.size A ts) (hs : TS ts) (hl : ts.length ≤ 2000000) :
    Calls Try.prog 40 #[.slice A n c] w fun e w' => e = .returned (.int .i64 (ttI ts)) ∧ Below w.heap.size w w' := by
  subst hn; exact iTalliesTotal A c ts w h hs hl

set_option maxRecDepth 100000 in
set_option maxHeartbeats 2000000 in
theorem walkFnBalance (a : Option Addr) (len cap : Nat) (zs : List Int) (a1 : Option Addr) (len1 cap1 : Nat) (zs1 : List Int) (w : World) (hs : Sl .u8 w a len cap zs) (hs1 : Sl .u8 w a1 len1 cap1 zs1) :
    Calls Try.prog 10 #[.slice a len cap, .slice a1 len1 cap1] w fun e w' => e = .returned (.bool true) ∧ Below w.heap.size w w' := by
  have HS := Lib.hid hs
  obtain ⟨-, hlc, hcm, -, -⟩ := hs
  obtain ⟨-, hlc1, hcm1, -, -⟩ := hs1
  unfold maxLen at hcm hcm1
  by_cases hbig : len ≤ 1048576
  case neg =>
    have hbig' : decide (1048576 < len) = true := by simp; omega
    go_enter Try.func10, Try.ntmps10
    go_wp2_with fail
    go_ret
    exact ⟨rfl, Below.refl _ _⟩
  by_cases hbig1 : len1 ≤ 1048576
  case neg =>
    have hbig' : decide (1048576 < len1) = true := by simp; omega
    have hbig'' : decide (1048576 < len) = false := by simp; omega
    go_enter Try.func10, Try.ntmps10
    go_wp2_with fail
    go_ret
    exact ⟨rfl, Below.refl _ _⟩
  go_enter Try.func10, Try.ntmps10
  go_wp2_with fail
  refine (drawTalliesBalance a len cap zs _ HS.out).mono ?_
  rintro e w1 ⟨ts, A, c, hsh, rfl, o1, hb1⟩
  have HO := Lib.hid o1
  have h7 : ts.length ≤ 7 := hsh.1
  have HT := Lib.hid hsh.ts
  have hcap := OR.len o1
  unfold maxLen at hcap
  clear hsh o1
  obtain ⟨V, hV⟩ : ∃ V, tvB ts = V := ⟨_, rfl⟩
  obtain ⟨bs, hbs⟩ : ∃ bs, tbR ts = bs := ⟨_, rfl⟩
  have hbl : bs.length ≤ 5 := by
    rw [← hbs]; unfold tbR; split
    · rw [bals_len]; omega
    · simp
  have d1 := iTalliesBalance A c ts w1 (OR.rd HO.out) HT.out (by omega)
  have d2 := fun w2 (hb : Below w1.heap.size w1 w2) => sTalliesBalance A c ts w2 (rc_to' (OR.rd HO.out) hb) HT.out (by omega)
  rw [hV, hbs] at d1 d2
  have HV := Lib.hid hV
  have HB := Lib.hid hbs
  clear hV hbs
  have hVV : (V != V) = false := by cases V <;> rfl
  go_wp2_with fail
  refine d1.mono ?_
  rintro e w2 ⟨A2, c2, rfl, o2, hb2⟩
  have O2 := Lib.hid o2
  have T2 := below_then2 hb1 hb2
  clear o2 d1
  go_wp2_with fail
  refine (d2 _ hb2).mono ?_
  rintro e w3 ⟨A3, c3, rfl, o3, hb3⟩
  have O3 := Lib.hid o3
  have T3 := below_then2 T2 hb3
  have R2 := Lib.hid (rd_to' (IR.rd O2.out) hb3)
  clear o3 d2
  have sm := fun n => sameInts_yes A2 A3 c2 c3 bs (w3.drewN n) R2.out (IR.rd O3.out) (by omega)
  have sm0 := sm 0
  rw [World.drewN_zero] at sm0
  cases V with
  | false =>
    clear hVV
    go_wp2_with fail
    refine sm0.mono ?_
    rintro e w4 ⟨rfl, n4, rfl⟩
    go_wp2_with fail
    refine (sm n4).mono ?_
    rintro e w5 ⟨rfl, n5, rfl⟩
    go_wp2_with fail
    go_ret
    exact ⟨rfl, below_drewN T3 (n4 + n5)⟩
  | true =>
    clear hVV
    go_wp2_with fail
    refine sm0.mono ?_
    rintro e w4 ⟨rfl, n4, rfl⟩
    clear sm sm0
    have T4 := below_drewN T3 n4
    have hlt12 : (ts.length : Int) ≤ 7 := by omega
    obtain ⟨kk, hkk⟩ : ∃ kk : Nat, (len1 : Int) % ((ts.length : Int) + 1) = (kk : Int) := ⟨((len1 : Int) % ((ts.length : Int) + 1)).toNat, by have := Int.emod_nonneg (len1 : Int) (show (ts.length : Int) + 1 ≠ 0 by omega); omega⟩
    have hk1 : kk ≤ ts.length := by have := Int.emod_lt_of_pos (len1 : Int) (show 0 < (ts.length : Int) + 1 by omega); omega
    have hnz : ¬ ((ts.length : Int) + 1) = 0 := by omega
    have hnz' : ((ts.length : Int) + 1 == 0) = false := beq_eq_false_iff_ne.2 hnz
    have k0 : (0 : Int) ≤ kk := by omega
    have k1 : (kk : Int) ≤ ts.length := by omega
    have k2 : (ts.length : Int) ≤ c := by omega
    have k3 : (kk : Int) ≤ c := by omega
    have ht1 := Lib.hid (tv_take HV.out kk)
    have ht2 := Lib.hid (tv_drop HV.out kk)
    have hbe : bs = bals ts := by rw [← HB.out, tb_yes HV.out]
    have hb5 : bs.length = 5 := by rw [hbe]; rfl
    have HBE := Lib.hid hbe
    clear hbe
    have R1 := Lib.hid (rc_to' (rc_to' (OR.rd HO.out) hb2) hb3)
    rcases TI.where_ HO.out with ⟨rfl, hts, rfl⟩ | ⟨g, rfl⟩
    · have hk0 : kk = 0 := by rw [hts] at hk1; simpa using hk1
      subst hk0
      have l1 : (ts.take 0).length = 0 := rfl
      have l2 : (ts.drop 0).length = 0 := by rw [hts]; rfl
      have l3 : ts.length = 0 := by rw [hts]; rfl
      have L1 := Lib.hid (And.intro l1 (And.intro l2 l3))
      clear l1 l2 l3
      have HTS := Lib.hid hts
      clear hts
      go_wp2_with fail
      refine (iTB5 none 0 0 (ts.take 0) (w3.drewN n4) L1.out.1 RC.nil (ts_take HT.out 0) ht1.out).mono ?_
      rintro e w5 ⟨A5, c5, rfl, o5, hb5⟩
      go_wp2_with fail
      refine (iTB5 none 0 0 (ts.drop 0) _ L1.out.2.1 (by rw [HTS.out]; exact RC.nil) (ts_drop HT.out 0) ht2.out).mono ?_
      rintro e w6 ⟨A6, c6, rfl, o6, hb6⟩
      have R6 := Lib.hid (rc_to' (rc_to' (show RC (w3.drewN n4) (w3.drewN n4).heap.size _ _ from R1.out) hb5) hb6)
      have T6 := below_then2 (below_then2 T4 hb5) hb6
      go_wp2_with fail
      refine (iTalliesTotal none 0 ts w6 R6.out HT.out (by omega)).mono ?_
      rintro e w7 ⟨rfl, hb7⟩
      have T7 := below_then2 T6 hb7
      have O27 := ((((IR.below O2.out hb3 (Nat.le_refl _)).drewN n4).below hb5 (Nat.le_refl _)).below hb6 (Nat.le_refl _)).below hb7 (Nat.le_refl _)
      have O57 := (IR.below o5 hb6 (Nat.le_refl _)).below hb7 (Nat.le_refl _)
      have O67 := IR.below o6 hb7 (Nat.le_refl _)
      rw [HBE.out] at O27
      have RS := Lib.hid (IR.rd O27)
      obtain ⟨g2, rfl, _, _, _, _, hcA, _⟩ := IR.form O27 (by rw [bals_len]; omega)
      obtain ⟨g5, rfl, _, _, _, _, hcB, _⟩ := IR.form O57 (by rw [bals_len]; omega)
      obtain ⟨g6, rfl, _, _, _, _, hcC, _⟩ := IR.form O67 (by rw [bals_len]; omega)
      have HC := Lib.hid (And.intro hcA (And.intro hcB hcC))
      clear hcA hcB hcC O27 O57 O67 o5 o6
      obtain ⟨bl0, bl1, bl2⟩ := bal_law ts (tv_yes HV.out).2
      have HBL := Lib.hid bl2
      have etot : ttI ts = tot ts := by unfold ttI; rw [HV.out]; rfl
      have hsum := fun n => sumOf_any (some ⟨g2, 0, none⟩) c2 (bals ts) (w7.drewN n) RS.out (by rw [bals_len]; omega) (fun i => by
        rcases Nat.lt_or_ge i 5 with hi | hi
        · rw [bals_at ts hi]; have := balP_bd i ts; omega
        · have : ix (bals ts) i = 0 := by simp [ix, bals, List.getD_eq_getElem?_getD, List.getElem?_eq_none (show ([balP ts 0, balP ts 1, balP ts 2, balP ts 3, balP ts 4] : List Int).length ≤ i by simpa using hi)]
          rw [this]; omega)
      rw [bals_len, sumI_bals, bl0] at hsum
      have htb := tot_bd ts
      rw [etot]
      clear etot bl0 bl2
      obtain ⟨Tt, hTt⟩ : ∃ Tt, tot ts = Tt := ⟨_, rfl⟩
      rw [hTt] at bl1 htb ⊢
      have HTt := Lib.hid hTt
      clear hTt
      have s2 : IntKind.i64.wrap (0 - Tt) = -Tt := by rw [Int.zero_sub]; exact IntWalk.i64_in _ (by omega)
      have s2' : IntKind.i64.wrap (-Tt) = -Tt := IntWalk.i64_in _ (by omega)
      go_wp2_with fail
      go_loopw [16] (fun i wr => ∃ k' n : Nat, k' ≤ 5 ∧ i = .int .i64 k' ∧ wr = w7.drewN n) (fun i _ => 5 - (intOf i).toNat)
      case atStart => exact ⟨0, 0, by omega, rfl, rfl⟩
      case round =>
        obtain ⟨k', n, hk', rfl, hw⟩ := hrel
        have HW := Lib.hid hw
        subst hw
        by_cases hlt : k' < 5
        · have x1 := HC.out.1 k' hlt
          have x2 := HC.out.2.1 k' hlt
          have x3 := HC.out.2.2 k' hlt
          rw [bals_at _ hlt] at x1 x2 x3
          have hsp := bal_split ts 0 k'
          have hbo := HBL.out k'
          rw [HTt.out] at hbo
          have hbd := balP_bd k' ts
          generalize balP ts k' = X at *
          generalize balP (ts.take 0) k' = Y at *
          generalize balP (ts.drop 0) k' = Z at *
          have s1 : IntKind.i64.wrap (Y + Z) = X := by rw [hsp]; exact IntWalk.i64_in _ (by omega)
          have u1 : decide (Tt < X) = false := by simp; omega
          have u2 : decide (X < -Tt) = false := by simp; omega
          have u3 : decide (X < 0 - Tt) = false := by simp; omega
          have u4 : (X != X) = false := by simp
          have j1 : (0 : Int) ≤ (k' : Int) := by omega
          have j2 : (k' : Int) < 5 := by omega
          have j3 : decide ((k' : Int) < 5) = true := by simp; omega
          go_wp2_with fail
          go_quiet (fail)
          go_wp2_with fail
          go_roundw
          case rel => exact ⟨k' + 1, _, by omega, by go_num, rfl⟩
          case measure => simp [intOf] <;> omega
        · have HE := Lib.hid (show k' = 5 by omega)
          have j3 : decide ((k' : Int) < 5) = false := by simp; omega
          go_wp2_with (go_at_call 41; (with_reducible refine (hsum n).mono ?_); rintro e w8 ⟨rfl, rfl⟩)
          go_ret
          exact ⟨rfl, below_drewN T7 n⟩
    · have L1 := Lib.hid (show (ts.take kk).length = kk by rw [List.length_take]; omega)
      have L2 := Lib.hid (show (ts.drop kk).length = ts.length - kk by rw [List.length_drop])
      by_cases hkc : kk = c
      · subst hkc
        have hdn := Lib.hid (show ts.drop kk = [] from List.drop_of_length_le (by omega))
        go_wp2_with fail
        refine (iTB5 (some ⟨g, 0, none⟩) kk kk (ts.take kk) (w3.drewN n4) L1.out (tr_take R1.out kk) (ts_take HT.out kk) ht1.out).mono ?_
        rintro e w5 ⟨A5, c5, rfl, o5, hb5⟩
        go_wp2_with fail
        refine (iTB5 (some ⟨g, 0, none⟩) 0 0 (ts.drop kk) w5 (by rw [hdn.out]; rfl) (by rw [hdn.out]; exact RC.nil) (ts_drop HT.out kk) ht2.out).mono ?_
        rintro e w6 ⟨A6, c6, rfl, o6, hb6⟩
        have R6 := Lib.hid (rc_to' (rc_to' (show RC (w3.drewN n4) (w3.drewN n4).heap.size _ _ from R1.out) hb5) hb6)
        have T6 := below_then2 (below_then2 T4 hb5) hb6
        go_wp2_with fail
        refine (iTalliesTotal (some ⟨g, 0, none⟩) kk ts w6 R6.out HT.out (by omega)).mono ?_
        rintro e w7 ⟨rfl, hb7⟩
        have T7 := below_then2 T6 hb7
        have O27 := ((((IR.below O2.out hb3 (Nat.le_refl _)).drewN n4).below hb5 (Nat.le_refl _)).below hb6 (Nat.le_refl _)).below hb7 (Nat.le_refl _)
        have O57 := (IR.below o5 hb6 (Nat.le_refl _)).below hb7 (Nat.le_refl _)
        have O67 := IR.below o6 hb7 (Nat.le_refl _)
        rw [HBE.out] at O27
        have RS := Lib.hid (IR.rd O27)
        obtain ⟨g2, rfl, _, _, _, _, hcA, _⟩ := IR.form O27 (by rw [bals_len]; omega)
        obtain ⟨g5, rfl, _, _, _, _, hcB, _⟩ := IR.form O57 (by rw [bals_len]; omega)
        obtain ⟨g6, rfl, _, _, _, _, hcC, _⟩ := IR.form O67 (by rw [bals_len]; omega)
        have HC := Lib.hid (And.intro hcA (And.intro hcB hcC))
        clear hcA hcB hcC O27 O57 O67 o5 o6
        obtain ⟨bl0, bl1, bl2⟩ := bal_law ts (tv_yes HV.out).2
        have HBL := Lib.hid bl2
        have etot : ttI ts = tot ts := by unfold ttI; rw [HV.out]; rfl
        have hsum := fun n => sumOf_any (some ⟨g2, 0, none⟩) c2 (bals ts) (w7.drewN n) RS.out (by rw [bals_len]; omega) (fun i => by
          rcases Nat.lt_or_ge i 5 with hi | hi
          · rw [bals_at ts hi]; have := balP_bd i ts; omega
          · have : ix (bals ts) i = 0 := by simp [ix, bals, List.getD_eq_getElem?_getD, List.getElem?_eq_none (show ([balP ts 0, balP ts 1, balP ts 2, balP ts 3, balP ts 4] : List Int).length ≤ i by simpa using hi)]
            rw [this]; omega)
        rw [bals_len, sumI_bals, bl0] at hsum
        have htb := tot_bd ts
        rw [etot]
        clear etot bl0 bl2
        obtain ⟨Tt, hTt⟩ : ∃ Tt, tot ts = Tt := ⟨_, rfl⟩
        rw [hTt] at bl1 htb ⊢
        have HTt := Lib.hid hTt
        clear hTt
        have s2 : IntKind.i64.wrap (0 - Tt) = -Tt := by rw [Int.zero_sub]; exact IntWalk.i64_in _ (by omega)
        have s2' : IntKind.i64.wrap (-Tt) = -Tt := IntWalk.i64_in _ (by omega)
        go_wp2_with fail
        go_loopw [16] (fun i wr => ∃ k' n : Nat, k' ≤ 5 ∧ i = .int .i64 k' ∧ wr = w7.drewN n) (fun i _ => 5 - (intOf i).toNat)
        case atStart => exact ⟨0, 0, by omega, rfl, rfl⟩
        case round =>
          obtain ⟨k', n, hk', rfl, hw⟩ := hrel
          have HW := Lib.hid hw
          subst hw
          by_cases hlt : k' < 5
          · have x1 := HC.out.1 k' hlt
            have x2 := HC.out.2.1 k' hlt
            have x3 := HC.out.2.2 k' hlt
            rw [bals_at _ hlt] at x1 x2 x3
            have hsp := bal_split ts kk k'
            have hbo := HBL.out k'
            rw [HTt.out] at hbo
            have hbd := balP_bd k' ts
            generalize balP ts k' = X at *
            generalize balP (ts.take kk) k' = Y at *
            generalize balP (ts.drop kk) k' = Z at *
            have s1 : IntKind.i64.wrap (Y + Z) = X := by rw [hsp]; exact IntWalk.i64_in _ (by omega)
            have u1 : decide (Tt < X) = false := by simp; omega
            have u2 : decide (X < -Tt) = false := by simp; omega
            have u3 : decide (X < 0 - Tt) = false := by simp; omega
            have u4 : (X != X) = false := by simp
            have j1 : (0 : Int) ≤ (k' : Int) := by omega
            have j2 : (k' : Int) < 5 := by omega
            have j3 : decide ((k' : Int) < 5) = true := by simp; omega
            go_wp2_with fail
            go_quiet (fail)
            go_wp2_with fail
            go_roundw
            case rel => exact ⟨k' + 1, _, by omega, by go_num, rfl⟩
            case measure => simp [intOf] <;> omega
          · have HE := Lib.hid (show k' = 5 by omega)
            have j3 : decide ((k' : Int) < 5) = false := by simp; omega
            go_wp2_with (go_at_call 41; (with_reducible refine (hsum n).mono ?_); rintro e w8 ⟨rfl, rfl⟩)
            go_ret
            exact ⟨rfl, below_drewN T7 n⟩
      · have hkc1 : (kk : Int) < c := by omega
        have hkc2 : ¬ (kk : Int) = c := by omega
        have hkc3 : ((kk : Int) == c) = false := beq_eq_false_iff_ne.2 hkc2
        go_wp2_with fail
        refine (iTB5 (some ⟨g, 0, none⟩) c kk (ts.take kk) (w3.drewN n4) L1.out (tr_take R1.out kk) (ts_take HT.out kk) ht1.out).mono ?_
        rintro e w5 ⟨A5, c5, rfl, o5, hb5⟩
        go_wp2_with fail
        have RD2 : TR w5 w5.heap.size (some ⟨g, kk * 4, none⟩) (ts.drop kk) := by
          have := tr_drop (rc_to' (show RC (w3.drewN n4) (w3.drewN n4).heap.size _ _ from R1.out) hb5) kk
          rw [Nat.zero_add] at this
          exact this
        refine (iTB5 (some ⟨g, kk * 4, none⟩) (c - kk) (ts.length - kk) (ts.drop kk) w5 L2.out RD2 (ts_drop HT.out kk) ht2.out).mono ?_
        rintro e w6 ⟨A6, c6, rfl, o6, hb6⟩
        clear RD2
        have R6 := Lib.hid (rc_to' (rc_to' (show RC (w3.drewN n4) (w3.drewN n4).heap.size _ _ from R1.out) hb5) hb6)
        have T6 := below_then2 (below_then2 T4 hb5) hb6
        go_wp2_with fail
        refine (iTalliesTotal (some ⟨g, 0, none⟩) c ts w6 R6.out HT.out (by omega)).mono ?_
        rintro e w7 ⟨rfl, hb7⟩
        have T7 := below_then2 T6 hb7
        have O27 := ((((IR.below O2.out hb3 (Nat.le_refl _)).drewN n4).below hb5 (Nat.le_refl _)).below hb6 (Nat.le_refl _)).below hb7 (Nat.le_refl _)
        have O57 := (IR.below o5 hb6 (Nat.le_refl _)).below hb7 (Nat.le_refl _)
        have O67 := IR.below o6 hb7 (Nat.le_refl _)
        rw [HBE.out] at O27
        have RS := Lib.hid (IR.rd O27)
        obtain ⟨g2, rfl, _, _, _, _, hcA, _⟩ := IR.form O27 (by rw [bals_len]; omega)
        obtain ⟨g5, rfl, _, _, _, _, hcB, _⟩ := IR.form O57 (by rw [bals_len]; omega)
        obtain ⟨g6, rfl, _, _, _, _, hcC, _⟩ := IR.form O67 (by rw [bals_len]; omega)
        have HC := Lib.hid (And.intro hcA (And.intro hcB hcC))
        clear hcA hcB hcC O27 O57 O67 o5 o6
        obtain ⟨bl0, bl1, bl2⟩ := bal_law ts (tv_yes HV.out).2
        have HBL := Lib.hid bl2
        have etot : ttI ts = tot ts := by unfold ttI; rw [HV.out]; rfl
        have hsum := fun n => sumOf_any (some ⟨g2, 0, none⟩) c2 (bals ts) (w7.drewN n) RS.out (by rw [bals_len]; omega) (fun i => by
          rcases Nat.lt_or_ge i 5 with hi | hi
          · rw [bals_at ts hi]; have := balP_bd i ts; omega
          · have : ix (bals ts) i = 0 := by simp [ix, bals, List.getD_eq_getElem?_getD, List.getElem?_eq_none (show ([balP ts 0, balP ts 1, balP ts 2, balP ts 3, balP ts 4] : List Int).length ≤ i by simpa using hi)]
            rw [this]; omega)
        rw [bals_len, sumI_bals, bl0] at hsum
        have htb := tot_bd ts
        rw [etot]
        clear etot bl0 bl2
        obtain ⟨Tt, hTt⟩ : ∃ Tt, tot ts = Tt := ⟨_, rfl⟩
        rw [hTt] at bl1 htb ⊢
        have HTt := Lib.hid hTt
        clear hTt
        have s2 : IntKind.i64.wrap (0 - Tt) = -Tt := by rw [Int.zero_sub]; exact IntWalk.i64_in _ (by omega)
        have s2' : IntKind.i64.wrap (-Tt) = -Tt := IntWalk.i64_in _ (by omega)
        go_wp2_with fail
        go_loopw [16] (fun i wr => ∃ k' n : Nat, k' ≤ 5 ∧ i = .int .i64 k' ∧ wr = w7.drewN n) (fun i _ => 5 - (intOf i).toNat)
        case atStart => exact ⟨0, 0, by omega, rfl, rfl⟩
        case round =>
          obtain ⟨k', n, hk', rfl, hw⟩ := hrel
          have HW := Lib.hid hw
          subst hw
          by_cases hlt : k' < 5
          · have x1 := HC.out.1 k' hlt
            have x2 := HC.out.2.1 k' hlt
            have x3 := HC.out.2.2 k' hlt
            rw [bals_at _ hlt] at x1 x2 x3
            have hsp := bal_split ts kk k'
            have hbo := HBL.out k'
            rw [HTt.out] at hbo
            have hbd := balP_bd k' ts
            generalize balP ts k' = X at *
            generalize balP (ts.take kk) k' = Y at *
            generalize balP (ts.drop kk) k' = Z at *
            have s1 : IntKind.i64.wrap (Y + Z) = X := by rw [hsp]; exact IntWalk.i64_in _ (by omega)
            have u1 : decide (Tt < X) = false := by simp; omega
            have u2 : decide (X < -Tt) = false := by simp; omega
            have u3 : decide (X < 0 - Tt) = false := by simp; omega
            have u4 : (X != X) = false := by simp
            have j1 : (0 : Int) ≤ (k' : Int) := by omega
            have j2 : (k' : Int) < 5 := by omega
            have j3 : decide ((k' : Int) < 5) = true := by simp; omega
            go_wp2_with fail
            go_quiet (fail)
            go_wp2_with fail
            go_roundw
            case rel => exact ⟨k' + 1, _, by omega, by go_num, rfl⟩
            case measure => simp [intOf] <;> omega
          · have HE := Lib.hid (show k' = 5 by omega)
            have j3 : decide ((k' : Int) < 5) = false := by simp; omega
            go_wp2_with (go_at_call 41; (with_reducible refine (hsum n).mono ?_); rintro e w8 ⟨rfl, rfl⟩)
            go_ret
            exact ⟨rfl, below_drewN T7 n⟩

end Go.Proofs.Ytahlflennmdckaa
