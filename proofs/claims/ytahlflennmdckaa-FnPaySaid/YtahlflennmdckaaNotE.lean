/- The walks of the reference's NotchesValid, l6Many, NotchesOf, NotchesWorth. -/
import Derived.Test.YtahlflennmdckaaNotD
namespace Go.Proofs.Ytahlflennmdckaa
open Go.RowKit Go.PlainAid
set_option linter.unusedVariables false
set_option linter.unusedSimpArgs false

theorem worth_q (z : Int) (w : World) (n : Nat) : Calls Try.prog 53 #[.int .u8 z] (w.drewN n) fun e w'' => e = .returned (.int .i64 (lwz z)) ∧ ∃ m, w'' = w.drewN m :=
  (l6yWorth z (w.drewN n)).mono fun e w' h => ⟨h.1, n, h.2.symm⟩

theorem lwz_ltr {i : Nat} (hi : i < 4) : lwz ((ltr i).toNat : Int) = if i = 0 then 1000 else if i = 1 then 100 else if i = 2 then 10 else 1 := by
  have : i = 0 ∨ i = 1 ∨ i = 2 ∨ i = 3 := by omega
  rcases this with e | e | e | e <;> subst e <;> decide
theorem lwz_other {x : UInt8} (h : ∀ i, i < 4 → x ≠ ltr i) : lwz (x.toNat : Int) = 0 := by
  have h0 := h 0 (by omega)
  have h1 := h 1 (by omega)
  have h2 := h 2 (by omega)
  have h3 := h 3 (by omega)
  simp [ltr] at h0 h1 h2 h3
  have e : ∀ y : UInt8, x ≠ y → (x.toNat : Int) ≠ (y.toNat : Int) := fun y hy he => hy (UInt8.toNat.inj (by omega))
  have k0 := e _ h0
  have k1 := e _ h1
  have k2 := e _ h2
  have k3 := e _ h3
  simp at k0 k1 k2 k3
  unfold lwz
  rw [if_neg (by omega), if_neg (by omega), if_neg (by omega), if_neg (by omega)]
theorem lwz_lt {i j : Nat} (hi : i < 4) (hj : j < 4) : lwz ((ltr i).toNat : Int) < lwz ((ltr j).toNat : Int) ↔ j < i := by
  rw [lwz_ltr hi, lwz_ltr hj]
  have : i = 0 ∨ i = 1 ∨ i = 2 ∨ i = 3 := by omega
  have : j = 0 ∨ j = 1 ∨ j = 2 ∨ j = 3 := by omega
  rcases ‹i = 0 ∨ _› with e | e | e | e <;> subst e <;> rcases ‹j = 0 ∨ _› with e | e | e | e <;> subst e <;> decide
theorem lwz_pos {i : Nat} (hi : i < 4) : 1 ≤ lwz ((ltr i).toNat : Int) := by
  rw [lwz_ltr hi]
  have : i = 0 ∨ i = 1 ∨ i = 2 ∨ i = 3 := by omega
  rcases this with e | e | e | e <;> subst e <;> decide
theorem ltr_ne {i j : Nat} (hi : i < 4) (hj : j < 4) : ((ltr i).toNat : Int) = ((ltr j).toNat : Int) ↔ i = j := by
  constructor
  · intro h; exact ltr_inj hi hj (UInt8.toNat.inj (by omega))
  · rintro rfl; rfl

/-- What the reference's reading has behind it: the first k letters make st; the last letter is st's last, met many times. -/
def SV (s : ByteArray) (k : Nat) (st : NS) (many : Nat) : Prop :=
  nrun (s.data.toList.take k) ns0 = some st ∧ ((k = 0 ∧ st = ns0 ∧ many = 0) ∨ (0 < k ∧ bt s (k - 1) = ((ltr st.last).toNat : Int) ∧ many = st.get st.last))
theorem SV.many {s : ByteArray} {k : Nat} {st : NS} {many : Nat} (h : SV s k st many) : many ≤ 9 := by
  rcases h with ⟨h, ⟨_, _, rfl⟩ | ⟨_, _, rfl⟩⟩
  · omega
  · obtain ⟨o1, o2, o3, o4⟩ := (nrun0 h).1
    unfold NS.get; split <;> (try split) <;> (try split) <;> omega
/-- One letter more. -/
theorem SV.none_ {s : ByteArray} {k : Nat} {st : NS} {many : Nat} (h : SV s k st many) (hk : k < s.size) (hx : nstep st s[k] = none) : nvB s = false := by
  have : nrun s.data.toList ns0 = none := nrun_take_none _ (k + 1) _ (by rw [take_snoc s k hk, nrun_snoc, h.1]; exact hx)
  unfold nvB; rw [this]; rfl
theorem SV.next {s : ByteArray} {k : Nat} {st : NS} {many : Nat} (h : SV s k st many) (hk : k < s.size) {i : Nat} (hi : i < 4) (hx : s[k] = ltr i) (hb : bt s k = (s[k].toNat : Int)) (hl : st.last ≤ i) (hg : st.get i < 9) : SV s (k + 1) (st.inc i) (st.get i + 1) := by
  refine ⟨?_, .inr ⟨by omega, ?_, ?_⟩⟩
  · rw [take_snoc s k hk, nrun_snoc, h.1, hx]
    show nstep st (ltr i) = _
    rw [nstep_ltr st hi, if_pos ⟨hl, hg⟩]
  · rw [last_inc st hi hl, Nat.add_sub_cancel, hb, hx]
  · rw [last_inc st hi hl]
    obtain ⟨a, b, c, d⟩ := st
    have : i = 0 ∨ i = 1 ∨ i = 2 ∨ i = 3 := by omega
    rcases this with e | e | e | e <;> subst e <;> rfl
theorem get_new {st : NS} {i : Nat} (hi : i < 4) (h : st.last < i) : st.get i = 0 := by
  obtain ⟨a, b, c, d⟩ := st
  have : i = 0 ∨ i = 1 ∨ i = 2 ∨ i = 3 := by omega
  rcases this with e | e | e | e <;> subst e <;> simp only [NS.last, NS.get] at h ⊢ <;> simp <;> (try split at h) <;> (try split at h) <;> (try split at h) <;> omega

set_option maxHeartbeats 2000000 in
theorem sNotchesValid (s : ByteArray) (w : World) (hs : s.size ≤ 4611686018427387) :
    Calls Try.prog 50 #[.string s] w fun e w' => e = .returned (.bool (nvB s)) ∧ ∃ n, w' = w.drewN n := by
  obtain ⟨V, HV⟩ : ∃ V, nvB s = V := ⟨_, rfl⟩
  rw [HV]
  have HV := Lib.hid HV
  rename_i HV0
  clear HV0
  have hb := get_bt s
  go_enter Try.func50, Try.ntmps50
  go_wp2
  go_loopw [3, 4] (fun m i wr => ∃ (k : Nat) (st : NS) (many n : Nat), k ≤ s.size ∧ SV s k st many ∧ m = .int .i64 many ∧ wr = w.drewN n ∧ ((k = 0 ∧ i = .int .i64 0) ∨ ∃ j : Nat, k = j + 1 ∧ i = .int .i64 ((j : Int) + 1))) (fun _ i _ => s.size - (intOf i).toNat)
  case atStart => exact ⟨0, ns0, 0, 0, Nat.zero_le _, ⟨rfl, .inl ⟨rfl, rfl, rfl⟩⟩, rfl, rfl, .inl ⟨rfl, rfl⟩⟩
  case round =>
    obtain ⟨k, st, many, n0, hk, hsv, rfl, hw0, hki⟩ := hrel
    have HW := Lib.hid hw0
    clear hw0
    have hmm := hsv.many
    have HS := Lib.hid hsv
    clear hsv
    by_cases hlt : k < s.size
    · have hx : bt s k = (s[k].toNat : Int) := (hb k hlt).symm
      rcases hki with ⟨rfl, rfl⟩ | ⟨j, rfl, rfl⟩
      · obtain rfl : many = 0 := by rcases HS.out.2 with ⟨_, _, h⟩ | ⟨h, _⟩ <;> omega
        have hst0 : st = ns0 := by rcases HS.out.2 with ⟨_, h, _⟩ | ⟨h, _⟩; exact h; omega
        rcases ltr_or s[0] with ⟨i, hi, e⟩ | hno
        · have hz : (lwz (bt s 0) == 0) = false := by have := lwz_pos hi; rw [hx, e]; simp; omega
          have hg0 : st.get i = 0 := by rw [hst0]; unfold NS.get ns0; simp
          have HN := Lib.hid (HS.out.next hlt hi e hx (by rw [hst0]; exact Nat.zero_le _) (by omega))
          rw [hg0] at HN
          clear hx e hst0 hg0
          go_wp2_with fail
          go_quiet ((go_at_call 53; exact worth_q _ _ _))
          go_wp2_with fail
          go_quiet (fail)
          go_wp2_with fail
          go_roundw
          case rel => exact ⟨0 + 1, st.inc i, 0 + 1, _, by omega, HN.out, rfl, by rw [HW.out, World.drewN_drewN], .inr ⟨0, rfl, rfl⟩⟩
          case measure => simp [intOf] <;> omega
        · have hz : (lwz (bt s 0) == 0) = true := by rw [hx, lwz_other hno]; rfl
          have HN := Lib.hid (HS.out.none_ hlt (nstep_other st hno))
          clear hx hst0 hno
          go_wp2_with fail
          go_quiet ((go_at_call 53; exact worth_q _ _ _))
          go_wp2_with fail
          go_ret
          exact ⟨ret_bool (by rw [← HV.out, HN.out]), _, by rw [HW.out, World.drewN_drewN]⟩
      · have hj1 : j + 1 < s.size := hlt
        have hj : j < s.size := by omega
        have w1 : IntKind.i64.wrap ((j : Int) + 1 - 1) = (j : Int) := by rw [Int.add_sub_cancel]; exact IntWalk.i64_in _ (by omega)
        have hpre : bt s j = ((ltr st.last).toNat : Int) ∧ many = st.get st.last := by
          rcases HS.out.2 with ⟨h, _⟩ | ⟨_, h, h'⟩
          · omega
          · exact ⟨by simpa using h, h'⟩
        have hll := last_lt st
        rcases ltr_or s[j + 1] with ⟨i, hi, e⟩ | hno
        · have hz : (lwz (bt s (j + 1)) == 0) = false := by have := lwz_pos hi; rw [hx, e]; simp; omega
          by_cases h1 : i < st.last
          · have hl : decide (lwz (bt s j) < lwz (bt s (j + 1))) = true := by rw [hx, e, hpre.1]; simpa using (lwz_lt hll hi).2 h1
            have HN := Lib.hid (HS.out.none_ hlt (by rw [e, nstep_ltr st hi, if_neg (by omega)]))
            clear hx e hpre
            go_wp2_with fail
            go_quiet ((go_at_call 53; exact worth_q _ _ _))
            clear w1
            go_wp2_with fail
            go_ret
            exact ⟨ret_bool (by rw [← HV.out, HN.out]), _, by rw [HW.out, World.drewN_drewN]⟩
          · have hl : decide (lwz (bt s j) < lwz (bt s (j + 1))) = false := by rw [hx, e, hpre.1]; have := lwz_lt hll hi; simp; omega
            by_cases h2 : i = st.last
            · subst h2
              have hd : (bt s (j + 1) != bt s j) = false := by rw [hx, e, hpre.1]; simp
              have hme := hpre.2
              by_cases h9 : many = 9
              · have HN := Lib.hid (HS.out.none_ hlt (by rw [e, nstep_ltr st hi, if_neg (by omega)]))
                have h9' : 9 ≤ many := by omega
                clear hx e hpre h9 hme
                go_wp2_with fail
                go_quiet ((go_at_call 53; exact worth_q _ _ _))
                go_wp2_with fail
                go_quiet (fail)
                clear w1
                go_wp2_with fail
                go_ret
                exact ⟨ret_bool (by rw [← HV.out, HN.out]), _, by rw [HW.out, World.drewN_drewN]⟩
              · have h9' : many ≤ 8 := by omega
                have HN := Lib.hid (HS.out.next hlt hi e hx (Nat.le_refl _) (by omega))
                rw [← hme] at HN
                clear hx e hpre h9 hme
                go_wp2_with fail
                go_quiet ((go_at_call 53; exact worth_q _ _ _))
                go_wp2_with fail
                go_quiet (fail)
                clear w1
                go_wp2_with fail
                go_roundw
                case rel => exact ⟨j + 1 + 1, st.inc st.last, many + 1, _, by omega, HN.out, by go_num, by rw [HW.out, World.drewN_drewN], .inr ⟨j + 1, rfl, by go_num⟩⟩
                case measure => simp [intOf] <;> omega
            · have hd : (bt s (j + 1) != bt s j) = true := by
                rw [hx, e, hpre.1]
                have := ltr_ne hi hll
                simp only [bne_iff_ne, ne_eq]; omega
              have hg0 : st.get i = 0 := get_new hi (by omega)
              have HN := Lib.hid (HS.out.next hlt hi e hx (by omega) (by omega))
              rw [hg0] at HN
              clear hx e hpre hg0
              go_wp2_with fail
              go_quiet ((go_at_call 53; exact worth_q _ _ _))
              go_wp2_with fail
              go_quiet (fail)
              clear w1
              go_wp2_with fail
              go_roundw
              case rel => exact ⟨j + 1 + 1, st.inc i, 0 + 1, _, by omega, HN.out, rfl, by rw [HW.out, World.drewN_drewN], .inr ⟨j + 1, rfl, by go_num⟩⟩
              case measure => simp [intOf] <;> omega
        · have hz : (lwz (bt s (j + 1)) == 0) = true := by rw [hx, lwz_other hno]; rfl
          have HN := Lib.hid (HS.out.none_ hlt (nstep_other st hno))
          clear hx hno hpre
          go_wp2_with fail
          go_quiet ((go_at_call 53; exact worth_q _ _ _))
          clear w1
          go_wp2_with fail
          go_ret
          exact ⟨ret_bool (by rw [← HV.out, HN.out]), _, by rw [HW.out, World.drewN_drewN]⟩
    · have hall : nrun s.data.toList ns0 = some st := by have := HS.out.1; rwa [List.take_of_length_le (by simp; omega)] at this
      have h36 : s.size ≤ 36 := by
        have h4 := (nrun0 hall).2.2.2
        obtain ⟨o1, o2, o3, o4⟩ := (nrun0 hall).1
        simp only [nlen] at h4
        have : s.data.toList.length = s.size := Array.length_toList
        omega
      have HN := Lib.hid (show nvB s = true by unfold nvB; rw [hall]; rfl)
      clear hall
      rcases hki with ⟨rfl, rfl⟩ | ⟨j, rfl, rfl⟩
      all_goals
        go_wp2_with fail
        go_ret
        exact ⟨ret_bool (by rw [← HV.out, HN.out]; simp; omega), _, HW.out⟩

end Go.Proofs.Ytahlflennmdckaa
