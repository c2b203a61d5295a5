/- The walk of the reference's NotchesCut; the law FnExactNotchesCut. -/
import Derived.Test.YtahlflennmdckaaNotH
namespace Go.Proofs.Ytahlflennmdckaa
open Go.RowKit Go.PlainAid
set_option linter.unusedVariables false
set_option linter.unusedSimpArgs false

/-- The text with L put in at k. -/
def putIn (s L : ByteArray) (k : Nat) : ByteArray := s.extract 0 k ++ L ++ s.extract k s.size
theorem putIn_list (s L : ByteArray) {k : Nat} (hk : k ≤ s.size) : (putIn s L k).data.toList = s.data.toList.take k ++ L.data.toList ++ s.data.toList.drop k := by
  unfold putIn
  simp [ByteArray.data_extract, List.take_of_length_le]
theorem size_list (s : ByteArray) : s.data.toList.length = s.size := Array.length_toList

/-- The first k letters are worth at least x. -/
def Upto (s : ByteArray) (x : Int) (k : Nat) : Prop := ∀ j, j < k → x ≤ lwz (bt s j)

theorem upto_next {s : ByteArray} {x : Int} {k : Nat} (h : Upto s x k) (hx : x ≤ lwz (bt s k)) : Upto s x (k + 1) := fun j hj => by
  rcases Nat.lt_or_ge j k with h1 | h1
  · exact h j h1
  · obtain rfl : j = k := by omega
    exact hx

theorem put_ltr {s : ByteArray} {st : NS} (hst : nrun s.data.toList ns0 = some st) {i : Nat} (hi : i < 4) {L : ByteArray} (hL : L.data.toList = [ltr i]) {k : Nat} (hk : k ≤ s.size) (hu : Upto s (lwz ((ltr i).toNat : Int)) k)
    (hz : k < s.size → lwz (bt s k) < lwz ((ltr i).toNat : Int)) : (putIn s L k).data.toList = ncan (st.inc i) := by
  rw [putIn_list s L hk, hL]
  have hl := (nrun0 hst).2.1
  have hb := get_bt s
  have hAB := ncan_AB st hi
  have hbt : ∀ j (hj : j < s.data.toList.length), bt s j = ((s.data.toList[j]).toNat : Int) := fun j hj => (hb j (by rw [size_list] at hj; exact hj)).symm
  have hlen := size_list s
  rw [hl, ← hAB] at hbt hlen ⊢
  obtain ⟨e1, e2⟩ := cut_at (ncanA_p st hi) (ncanB_p st hi) (k := k) (fun j hj hjk => by rw [← hbt j hj]; exact hu j hjk) (by omega) (fun hk' => by rw [← hbt k hk']; have := hz (by omega); omega)
  rw [e1, e2]
  exact ncan_inc st hi
theorem put_other {s : ByteArray} {st : NS} (hst : nrun s.data.toList ns0 = some st) {x : UInt8} (hx : ∀ i, i < 4 → x ≠ ltr i) {L : ByteArray} (hL : L.data.toList = [x]) {k : Nat} (hk : k ≤ s.size)
    (hz : k < s.size → lwz (bt s k) < 0) : nvB (putIn s L k) = false := by
  have hk' : k = s.size := by
    rcases Nat.lt_or_ge k s.size with h | h
    · have := hz h; have := lwz_bd (bt s k); omega
    · omega
  have : nrun (putIn s L k).data.toList ns0 = none := by
    rw [putIn_list s L hk, hL, hk', ← size_list s, List.take_length, List.drop_length, List.append_nil, nrun_snoc, hst]
    exact nstep_other st hx
  unfold nvB; rw [this]; rfl
theorem put_size (s L : ByteArray) {k : Nat} (hk : k ≤ s.size) : (putIn s L k).size = s.size + L.size := by
  rw [← size_list, putIn_list s L hk]
  simp [size_list]
  have := size_list s; have := size_list L
  simp at *
  omega

theorem cut_fin {s : ByteArray} {st : NS} (hst : nrun s.data.toList ns0 = some st) {x : UInt8} {L : ByteArray} (hL : L.data.toList = [x]) {k : Nat} (hk : k ≤ s.size) (hu : Upto s (lwz (x.toNat : Int)) k)
    (hz : k < s.size → lwz (bt s k) < lwz (x.toNat : Int)) : (nvB (putIn s L k) = true ∧ cuR s L = putIn s L k ∧ cuB s L = true) ∨ (nvB (putIn s L k) = false ∧ cuR s L = ⟨#[]⟩ ∧ cuB s L = false) := by
  have hLx : L = ⟨#[x]⟩ := Txt.eq (l := [x]) hL rfl
  have hco : cuO s L = if lix x < 4 ∧ st.get (lix x) < 9 then some (st.inc (lix x)) else none := by rw [hLx]; exact cuO_at hst x
  have hok := (nrun0 hst).1
  rcases ltr_or x with ⟨i, hi, rfl⟩ | hno
  · have hp := put_ltr hst hi hL hk hu hz
    rw [lix_ltr hi] at hco
    have hr := nrun_ncan (st.inc i)
    by_cases h9 : st.get i < 9
    · rw [if_pos ((get_inc hi hok).2 h9)] at hr
      rw [if_pos ⟨hi, h9⟩] at hco
      obtain ⟨e1, e2⟩ := cu_some hco
      refine .inl ⟨by unfold nvB; rw [hp, hr]; rfl, ?_, e2⟩
      rw [e1]
      exact (Txt.lit _).eq hp
    · rw [if_neg (fun h => h9 ((get_inc hi hok).1 h))] at hr
      rw [if_neg (fun h => h9 h.2)] at hco
      obtain ⟨e1, e2⟩ := cu_none hco
      exact .inr ⟨by unfold nvB; rw [hp, hr]; rfl, e1, e2⟩
  · rw [lix_other hno, if_neg (by omega)] at hco
    obtain ⟨e1, e2⟩ := cu_none hco
    rw [lwz_other hno] at hz
    exact .inr ⟨put_other hst hno hL hk hz, e1, e2⟩

set_option maxHeartbeats 2000000 in
theorem sCut_loop (s L : ByteArray) (x : UInt8) (hL : L.data.toList = [x]) (st : NS) (hst : nrun s.data.toList ns0 = some st) (w : World) (hs : s.size ≤ 461168601842738) :
    Calls Try.prog 16 #[.string s, .string L] w fun e w' => e = .returned (.tuple #[.string (cuR s L), .bool (cuB s L)]) ∧ ∃ n, w' = w.drewN n := by
  obtain ⟨R, hR⟩ : ∃ R, cuR s L = R := ⟨_, rfl⟩
  obtain ⟨V, hV⟩ : ∃ V, cuB s L = V := ⟨_, rfl⟩
  rw [hR, hV]
  have HR := Lib.hid hR
  have HV := Lib.hid hV
  have hc := sv_yes (s := s) (by omega) (by unfold nvB; rw [hst]; rfl)
  have hL1 : L.size = 1 := by rw [← size_list, hL]; rfl
  have hx : bt L 0 = (x.toNat : Int) := by
    have h0 : 0 < L.size := by omega
    rw [← get_bt L 0 h0]
    have : L[0] = x := by
      show L.data[0] = x
      have : L.data.toList[0]'(by rw [hL]; simp) = x := by simp [hL]
      simpa using this
    rw [this]
  have hLn : ((L.size : Int) != 1) = false := by rw [hL1]; rfl
  have hLn2 : (L.size != 1) = false := by rw [hL1]; rfl
  have hL0 : 0 < L.size := by omega
  have hL2 : L.size ≤ 1 := by omega
  have HL := Lib.hid hL
  have HST := Lib.hid hst
  have HX := Lib.hid hx
  clear hR hV hL hst hx hL1
  have hb := get_bt s
  have hbL := get_bt L
  go_enter Try.func16, Try.ntmps16
  go_wp2_with (go_at_call 50; (with_reducible refine (hc _).mono ?_); rintro e w' ⟨rfl, n, rfl⟩)
  go_loopw [6] (fun i wr => ∃ (k m : Nat), k ≤ s.size ∧ i = .int .i64 k ∧ wr = w.drewN m ∧ Upto s (lwz (bt L 0)) k) (fun i _ => s.size - (intOf i).toNat)
  case atStart => exact ⟨0, n, Nat.zero_le _, rfl, rfl, fun j hj => absurd hj (by omega)⟩
  case round =>
    obtain ⟨k, m, hk, rfl, hw, hu⟩ := hrel
    have HW := Lib.hid hw
    have HU := Lib.hid hu
    clear hw hu
    by_cases hlt : k < s.size
    · by_cases hge : lwz (bt L 0) ≤ lwz (bt s k)
      · have hge' : decide (lwz (bt L 0) ≤ lwz (bt s k)) = true := by simpa using hge
        go_wp2_with fail
        go_quiet ((go_at_call 53; exact worth_q _ _ _))
        go_wp2_with fail
        go_roundw
        case rel => exact ⟨k + 1, _, by omega, by go_num, by rw [HW.out, World.drewN_drewN], fun j hj => by exact upto_next HU.out hge j hj⟩
        case measure => simp [intOf] <;> omega
      · have hge' : decide (lwz (bt L 0) ≤ lwz (bt s k)) = false := by simpa using hge
        have hf := cut_fin HST.out HL.out hk (by rw [← HX.out]; exact HU.out) (fun _ => by rw [← HX.out]; omega)
        have hps := put_size s L hk
        rw [HR.out, HV.out] at hf
        have HP := Lib.hid (show putIn s L k = s.extract 0 k ++ L ++ s.extract k s.size from rfl)
        rcases hf with ⟨h1, h2, h3⟩ | ⟨h1, h2, h3⟩
        · have hc2 := sv_yes (s := putIn s L k) (by omega) h1
          rw [HP.out] at hc2
          have H2 := Lib.hid h2
          have H3 := Lib.hid h3
          clear h1 h2 h3 hps
          go_wp2_with fail
          go_quiet ((go_at_call 53; exact worth_q _ _ _))
          go_wp2_with fail
          go_quiet (fail)
          go_wp2_with (go_at_call 50; refine (hc2 _).mono ?_; rintro e w2 ⟨rfl, n2, rfl⟩)
          go_ret2
          exact ⟨by rw [H2.out, H3.out]; rfl, _, by rw [HW.out, World.drewN_drewN]⟩
        · have hc2 := sv_no (s := putIn s L k) (by omega) h1
          rw [HP.out] at hc2
          have H2 := Lib.hid h2
          have H3 := Lib.hid h3
          clear h1 h2 h3 hps
          go_wp2_with fail
          go_quiet ((go_at_call 53; exact worth_q _ _ _))
          go_wp2_with fail
          go_quiet (fail)
          go_wp2_with (go_at_call 50; refine (hc2 _).mono ?_; rintro e w2 ⟨rfl, n2, rfl⟩)
          go_ret2
          exact ⟨by rw [H2.out, H3.out]; rfl, _, by rw [HW.out, World.drewN_drewN]⟩
    · have hf := cut_fin HST.out HL.out hk (by rw [← HX.out]; exact HU.out) (fun h => absurd h hlt)
      have hps := put_size s L hk
      rw [HR.out, HV.out] at hf
      have HP := Lib.hid (show putIn s L k = s.extract 0 k ++ L ++ s.extract k s.size from rfl)
      rcases hf with ⟨h1, h2, h3⟩ | ⟨h1, h2, h3⟩
      · have hc2 := sv_yes (s := putIn s L k) (by omega) h1
        rw [HP.out] at hc2
        have H2 := Lib.hid h2
        have H3 := Lib.hid h3
        clear h1 h2 h3 hps
        go_wp2_with fail
        go_quiet (fail)
        go_wp2_with fail
        go_quiet (fail)
        go_wp2_with (go_at_call 50; refine (hc2 _).mono ?_; rintro e w2 ⟨rfl, n2, rfl⟩)
        go_ret2
        exact ⟨by rw [H2.out, H3.out]; rfl, _, by rw [HW.out, World.drewN_drewN]⟩
      · have hc2 := sv_no (s := putIn s L k) (by omega) h1
        rw [HP.out] at hc2
        have H2 := Lib.hid h2
        have H3 := Lib.hid h3
        clear h1 h2 h3 hps
        go_wp2_with fail
        go_quiet (fail)
        go_wp2_with fail
        go_quiet (fail)
        go_wp2_with (go_at_call 50; refine (hc2 _).mono ?_; rintro e w2 ⟨rfl, n2, rfl⟩)
        go_ret2
        exact ⟨by rw [H2.out, H3.out]; rfl, _, by rw [HW.out, World.drewN_drewN]⟩

theorem sNotchesCut (s l : ByteArray) (w : World) (hs : s.size ≤ 461168601842738) (hl : l.size ≤ 461168601842738) :
    Calls Try.prog 16 #[.string s, .string l] w fun e w' => e = .returned (.tuple #[.string (cuR s l), .bool (cuB s l)]) ∧ ∃ n, w' = w.drewN n := by
  cases hst : nrun s.data.toList ns0 with
  | none =>
    have hj := cu_none (cuO_inv (l := l) hst)
    rw [hj.1, hj.2]
    have hc := sv_no (s := s) (by omega) (by unfold nvB; rw [hst]; rfl)
    clear hj hst
    go_enter Try.func16, Try.ntmps16
    go_wp2_with (go_at_call 50; refine (hc _).mono ?_; rintro e w1 ⟨rfl, n, rfl⟩)
    go_ret2
    exact ⟨rfl, n, rfl⟩
  | some st =>
    by_cases h1 : l.size = 1
    · obtain ⟨x, rfl⟩ := one_of h1
      exact sCut_loop s _ x rfl st hst w hs
    · have hj := cu_none (cuO_len (s := s) h1)
      rw [hj.1, hj.2]
      have hc := sv_yes (s := s) (by omega) (by unfold nvB; rw [hst]; rfl)
      have hL : ((l.size : Int) != 1) = true := by simp; omega
      have hL2 : (l.size != 1) = true := by simp; omega
      clear hj hst h1
      go_enter Try.func16, Try.ntmps16
      go_wp2_with (go_at_call 50; refine (hc _).mono ?_; rintro e w1 ⟨rfl, n, rfl⟩)
      go_ret2
      exact ⟨rfl, n, rfl⟩

theorem walkFnExactNotchesCut (a : ByteArray) (ha : a.size ≤ maxLen) (b : ByteArray) (hb : b.size ≤ maxLen) (w : World) :
    Calls Try.prog 4 #[.string a, .string b] w fun e w' => e = .returned (.bool true) ∧ Below w.heap.size w w' := by
  unfold maxLen at ha hb
  by_cases h1 : a.size ≤ 1048576
  · by_cases h2 : b.size ≤ 1048576
    · go_enter Try.func4, Try.ntmps4
      go_wp2_with (first | (go_at_call 16; refine (sNotchesCut a b _ (by omega) (by omega)).mono ?_; rintro e w1 ⟨rfl, n, rfl⟩) | (go_at_call 17; refine (iNotchesCut a b _ (by omega) (by omega)).mono ?_; rintro e w2 ⟨rfl, hb2⟩))
      go_ret
      exact ⟨rfl, (below_drewN (Below.refl _ _) n).trans hb2⟩
    · go_enter Try.func4, Try.ntmps4
      go_wp2
      go_ret
      exact ⟨rfl, Below.refl _ _⟩
  · go_enter Try.func4, Try.ntmps4
    go_wp2
    go_ret
    exact ⟨rfl, Below.refl _ _⟩

end Go.Proofs.Ytahlflennmdckaa
