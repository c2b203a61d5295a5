/- The walks of debtsOf and of the reference's TalliesValid. -/
import Derived.Test.YtahlflennmdckaaTalN
namespace Go.Proofs.Ytahlflennmdckaa
open Go.RowKit Go.PlainAid
set_option linter.unusedVariables false
set_option linter.unusedSimpArgs false

theorem debt_info : (Try.prog.info? 77).map (fun i => (i.zero, i.size, i.bytes)) = some (some (.agg #[.int .i64 0, .int .i64 0, .int .i64 0]), 3, 24) := by kernel_rfl
theorem tally_info : (Try.prog.info? 36).map (fun i => (i.zero, i.size, i.bytes)) = some (some (.agg #[.int .i64 0, .int .i64 0, .string ⟨#[]⟩, .string ⟨#[]⟩]), 4, 48) := by kernel_rfl

/-- The texts of the tallies are not too long. -/
def TS (ts : List Tal) : Prop := ∀ t ∈ ts, t.s.size ≤ 4611686018427387
theorem TS.at_ {ts : List Tal} (h : TS ts) {k : Nat} (hk : k < ts.length) : (tx ts k).s.size ≤ 4611686018427387 := h _ (tx_mem ts hk)
/-- What debtsOf leaves. -/
def DebPost (ts : List Tal) (w : World) (e : Ending) (w' : World) : Prop :=
  ∃ A c n, e = .returned (.tuple #[.slice A n c, .bool (tvB ts)]) ∧ (tvB ts = true → n = ts.length ∧ DI w' w.heap.size A c ts) ∧ Below w.heap.size w w'
/-- The first k are tallies. -/
def Okk (ts : List Tal) (k : Nat) : Prop := ∀ j, j < k → tokB (tx ts j) = true
theorem okk_next {ts : List Tal} {k : Nat} (h : Okk ts k) (hk : tokB (tx ts k) = true) : Okk ts (k + 1) := fun j hj => by
  rcases Nat.lt_or_ge j k with h1 | h1
  · exact h j h1
  · obtain rfl : j = k := by omega
    exact hk
theorem okk_all {ts : List Tal} (h : Okk ts ts.length) (hl : ts.length ≤ 12) : tvB ts = true := tv_mk hl fun t ht => by
  obtain ⟨i, hi, rfl⟩ := List.mem_iff_getElem.1 ht
  rw [← tx_eq ts hi]; exact h i hi
theorem tok_no1 {t : Tal} (h : tmB t = false) : tokB t = false := by unfold tokB; rw [h]; rfl
theorem tok_no2 {t : Tal} (h : ¬ 1 ≤ wt t) : tokB t = false := by unfold tokB; simp; intro; omega
theorem tok_mk {t : Tal} (h : tmB t = true) (h' : 1 ≤ wt t) : tokB t = true := by unfold tokB; rw [h]; simpa using h'

set_option maxHeartbeats 2000000 in
theorem debtsOf_any (A : Option Addr) (c : Nat) (ts : List Tal) (w : World) (h : TR w w.heap.size A ts) (hs : TS ts) (hl : ts.length ≤ 2000000) :
    Calls Try.prog 70 #[.slice A ts.length c] w (DebPost ts w) := by
  by_cases h12 : ts.length ≤ 12
  case neg =>
    have hv := tv_no_len (ts := ts) (by omega)
    unfold DebPost
    rw [hv]
    have h12' : decide (12 < (ts.length : Int)) = true := by simp; omega
    clear hv hs
    go_enter Try.func70, Try.ntmps70
    go_wp2_with fail
    go_ret2
    exact ⟨none, 0, 0, rfl, fun h => (by cases h), Below.refl _ _⟩
  obtain ⟨V, hV⟩ : ∃ V, tvB ts = V := ⟨_, rfl⟩
  unfold DebPost
  rw [hV]
  have HV := Lib.hid hV
  have HS := Lib.hid hs
  have HT := Lib.hid h
  clear hV hs h
  have h12' : decide (12 < (ts.length : Int)) = false := by simp; omega
  go_enter Try.func70, Try.ntmps70
  go_wp2_with (at_make; refine wpList_mk0C rfl _ _ 86 77 rfl _ 3 24 debt_info Try.underlying86 (by omega) _ ts.length rfl rfl rfl (by omega) ?_; intro w1 hown1 hb1)
  go_loopw [4, 6, 7, 16] (fun s _ _ i wr => ∃ (k : Nat) (A' : Option Addr) (c' : Nat), k ≤ ts.length ∧ i = .int .i64 k ∧ s = .slice A' k c' ∧ OR wr w.heap.size 77 3 A' c' k (dcells (ts.take k)) ∧ Hid (Okk ts k) ∧ Below w.heap.size w wr) (fun _ _ _ i _ => ts.length - (intOf i).toNat)
  case atStart => exact ⟨0, _, _, Nat.zero_le _, rfl, rfl, by simpa [dcells] using hown1, fun j hj => absurd hj (by omega), hb1⟩
  case round =>
    obtain ⟨k, A', c', hk, rfl, rfl, hown, hok, hb⟩ := hrel
    by_cases hlt : k < ts.length
    · obtain ⟨b, off, rfl, hbb, t0, t1, t2, t3⟩ := TR.at_ (RC.below HT.out hb (Nat.le_refl _)) hlt
      have hsz := HS.out.at_ hlt
      have hsplit := Lib.hid (show dcells (ts.take (k + 1)) = dcells (ts.take k) ++ [.int .i64 (tx ts k).d, .int .i64 (tx ts k).c, .int .i64 (wt (tx ts k))] by rw [tx_take ts hlt, dcells_append]; rfl)
      have h1 := fun w => iNotchesWorth (tx ts k).s w hsz
      have h2 := fun w => iTallyMatches (tx ts k).d (tx ts k).c (tx ts k).s (tx ts k).f w hsz
      have e1 : wo (tx ts k).s.data.toList = wt (tx ts k) := rfl
      have e2 : (⟨(tx ts k).d, (tx ts k).c, (tx ts k).s, (tx ts k).f⟩ : Tal) = tx ts k := rfl
      rw [e1] at h1
      rw [e2] at h2
      have hwb := wt_bd (tx ts k)
      have hno := Lib.hid (tv_no_at hlt)
      have hyes := Lib.hid (fun h => okk_next hok.out (k := k) h)
      have hn1 := Lib.hid (tok_no1 (t := tx ts k))
      have hn2 := Lib.hid (tok_no2 (t := tx ts k))
      have hmk := Lib.hid (tok_mk (t := tx ts k))
      generalize (tx ts k) = T at *
      generalize wt T = x at *
      cases hm : tmB T with
      | false =>
        rw [hm] at h2
        have hf := Lib.hid (hno.out (hn1.out hm))
        clear hm e1 e2
        go_wp2_with (first | (go_at_call 19; (with_reducible refine (h1 _).mono ?_); rintro e w2 ⟨rfl, hb2⟩; obtain ⟨hc2, hf2⟩ := bcell hb2) | (go_at_call 27; (with_reducible refine (h2 _).mono ?_); rintro e w3 ⟨rfl, hb3⟩))
        go_ret2
        exact ⟨none, 0, 0, by rw [← HV.out, hf.out]; rfl, fun h => (by rw [← HV.out, hf.out] at h; cases h), below_then2 (below_then2 hb (below_box _ _ hb2)) hb3⟩
      | true =>
        rw [hm] at h2
        by_cases hx : 1 ≤ x
        · have ht := Lib.hid (hyes.out (hmk.out hm hx))
          clear hm e1 e2
          go_wp2_with (first | (go_at_call 19; (with_reducible refine (h1 _).mono ?_); rintro e w2 ⟨rfl, hb2⟩; obtain ⟨hc2, hf2⟩ := bcell hb2; have hz2 : wr.heap.size < w2.heap.size := (by have := hb2.size; simp at this; omega)) | (go_at_call 27; (with_reducible refine (h2 _).mono ?_); rintro e w3 ⟨rfl, hb3⟩; obtain ⟨hc3, hf3⟩ := bcell hb3; have hown3 := ((hown.alloc _).below hb2 (Nat.le_refl _)).below hb3 (Nat.le_refl _); have hB3 : w.heap.size ≤ w3.heap.size := (by have := hb3.size; have := hb.size; omega)) | (at_builtin; refine wpList_pushC rfl _ _ 86 77 rfl _ 3 24 debt_info Try.underlying86 rfl (by omega) (by omega) rfl (by simp [Value.oneCell']) w.heap.size A' c' k _ rfl hown3 w3.heap.size rfl rfl (by omega) hB3 ?_; intro A2 c2 w4 hown4 hg4 hb4 _))
          go_roundw
          case rel =>
            refine ⟨k + 1, A2, c2, by omega, by go_num, rfl, ?_, ht.out, (below_then2 (below_then2 hb (below_box _ _ hb2)) hb3).trans hb4⟩
            rw [hsplit.out]; exact hown4
          case measure => simp [intOf] <;> omega
        · have hf := Lib.hid (hno.out (hn2.out hx))
          have hx' : x < 1 := by omega
          clear hm e1 e2 hx
          go_wp2_with (first | (go_at_call 19; (with_reducible refine (h1 _).mono ?_); rintro e w2 ⟨rfl, hb2⟩; obtain ⟨hc2, hf2⟩ := bcell hb2) | (go_at_call 27; (with_reducible refine (h2 _).mono ?_); rintro e w3 ⟨rfl, hb3⟩))
          go_ret2
          exact ⟨none, 0, 0, by rw [← HV.out, hf.out]; rfl, fun h => (by rw [← HV.out, hf.out] at h; cases h), below_then2 (below_then2 hb (below_box _ _ hb2)) hb3⟩
    · have HE := Lib.hid (show k = ts.length by omega)
      go_wp2_with fail
      go_ret2
      rw [HE.out, List.take_of_length_le (Nat.le_refl _)] at hown
      have := okk_all (by have := hok.out; rwa [HE.out] at this) h12
      exact ⟨A', c', k, by rw [← HV.out, this]; rfl, fun _ => ⟨HE.out, hown⟩, hb⟩

theorem okk_split {ts : List Tal} {k : Nat} (hk : k < ts.length) : tokB (tx ts k) = false → tvB ts = false := tv_no_at hk
theorem wo_nil : wo (⟨#[]⟩ : ByteArray).data.toList = 0 := rfl
theorem wo_zero {s : ByteArray} (h : nvB s = true) : wo s.data.toList = 0 ↔ s = ⟨#[]⟩ := by
  constructor
  · intro h0
    have := (no_wo h).1
    rw [h0] at this
    rw [← this]; rfl
  · rintro rfl; rfl
theorem tok_s {d c : Int} {s f : ByteArray} : tokB ⟨d, c, s, f⟩ = (tmB ⟨d, c, s, f⟩ && !decide (s = ⟨#[]⟩)) := by
  unfold tokB
  cases h : tmB ⟨d, c, s, f⟩ with
  | false => rfl
  | true =>
    have hv : nvB s = true := by unfold tmB at h; simp at h; exact h.2.1
    have h0 := wo_zero hv
    obtain ⟨_, x0, x9⟩ := sum_wo hv
    show (true && decide (1 ≤ wo s.data.toList)) = (true && !decide (s = ⟨#[]⟩))
    by_cases hs : s = ⟨#[]⟩
    · rw [h0.2 hs]; simp [hs]
    · have : ¬ wo s.data.toList = 0 := fun e => hs (h0.1 e)
      simp [hs]; omega

set_option maxHeartbeats 2000000 in
theorem sTalliesValid (A : Option Addr) (c : Nat) (ts : List Tal) (w : World) (h : TR w w.heap.size A ts) (hs : TS ts) (hl : ts.length ≤ 2000000) :
    Calls Try.prog 67 #[.slice A ts.length c] w fun e w' => e = .returned (.bool (tvB ts)) ∧ Below w.heap.size w w' := by
  obtain ⟨V, hV⟩ : ∃ V, tvB ts = V := ⟨_, rfl⟩
  rw [hV]
  have HV := Lib.hid hV
  have HS := Lib.hid hs
  have HT := Lib.hid h
  clear hV hs h
  go_enter Try.func67, Try.ntmps67
  go_wp2
  go_loopw [3] (fun i wr => ∃ k : Nat, k ≤ ts.length ∧ i = .int .i64 k ∧ Hid (Okk ts k) ∧ Below w.heap.size w wr) (fun i _ => ts.length - (intOf i).toNat)
  case atStart => exact ⟨0, Nat.zero_le _, rfl, fun j hj => absurd hj (by omega), Below.refl _ _⟩
  case round =>
    obtain ⟨k, hk, rfl, hok, hb⟩ := hrel
    by_cases hlt : k < ts.length
    · obtain ⟨b, off, rfl, hbb, t0, t1, t2, t3⟩ := TR.at_ (RC.below HT.out hb (Nat.le_refl _)) hlt
      have hsz := HS.out.at_ hlt
      have h2 := fun w => sTallyMatches (tx ts k).d (tx ts k).c (tx ts k).s (tx ts k).f w hsz
      have hno := Lib.hid (tv_no_at hlt)
      have hyes := Lib.hid (fun h => okk_next hok.out (k := k) h)
      have hbw : b < wr.heap.size := by have := hb.size; omega
      generalize (tx ts k) = T at *
      obtain ⟨d, c', s, f⟩ := T
      simp only at t0 t1 t2 t3 h2 hsz
      cases hm : tmB ⟨d, c', s, f⟩ with
      | false =>
        rw [hm] at h2
        have hf := Lib.hid (hno.out (tok_no1 hm))
        clear hm
        go_wp2_with (go_at_call 89; (with_reducible refine (h2 _).mono ?_); rintro e w3 ⟨rfl, hb3⟩; obtain ⟨hc3, hf3⟩ := bcell hb3)
        go_ret
        exact ⟨ret_bool (by rw [← HV.out, hf.out]), below_then2 hb hb3⟩
      | true =>
        rw [hm] at h2
        by_cases he : s = ⟨#[]⟩
        · have hf := Lib.hid (hno.out (by rw [tok_s, hm]; simp [he]))
          clear hm
          subst he
          go_wp2_with (go_at_call 89; (with_reducible refine (h2 _).mono ?_); rintro e w3 ⟨rfl, hb3⟩; obtain ⟨hc3, hf3⟩ := bcell hb3)
          go_ret
          exact ⟨ret_bool (by rw [← HV.out, hf.out]), below_then2 hb hb3⟩
        · have ht := Lib.hid (hyes.out (by rw [tok_s, hm]; simp [he]))
          have hse : (s.toList == (⟨#[]⟩ : ByteArray).toList) = false := by rw [str_eq]; simp [he]
          have hse2 : s.toList.isEmpty = false := by
            rw [ByteArray.toList_eq]
            cases hh : s.data.toList with
            | nil => exact absurd (ByteArray.ext (Array.ext' hh)) he
            | cons a l => rfl
          clear hm he
          go_wp2_with (go_at_call 89; (with_reducible refine (h2 _).mono ?_); rintro e w3 ⟨rfl, hb3⟩; obtain ⟨hc3, hf3⟩ := bcell hb3)
          go_roundw
          case rel => exact ⟨k + 1, by omega, by go_num, ht.out, below_then2 hb hb3⟩
          case measure => simp [intOf] <;> omega
    · have HE := Lib.hid (show k = ts.length by omega)
      by_cases h12 : ts.length ≤ 12
      · have := Lib.hid (okk_all (by have := hok.out; rwa [HE.out] at this) h12)
        have h12' : decide ((ts.length : Int) ≤ 12) = true := by simp; omega
        go_wp2_with fail
        go_ret
        exact ⟨ret_bool (by rw [← HV.out, this.out]), hb⟩
      · have := Lib.hid (tv_no_len (ts := ts) (by omega))
        have h12' : decide ((ts.length : Int) ≤ 12) = false := by simp; omega
        go_wp2_with fail
        go_ret
        exact ⟨ret_bool (by rw [← HV.out, this.out]), hb⟩

end Go.Proofs.Ytahlflennmdckaa
