/- The walks of NotchesCut, of the program and of the reference; the law FnExactNotchesCut. -/
import Derived.Test.YtahlflennmdckaaNotG
namespace Go.Proofs.Ytahlflennmdckaa
open Go.RowKit Go.PlainAid
set_option linter.unusedVariables false
set_option linter.unusedSimpArgs false

/-! plain -/
theorem cut_at {A B : List UInt8} {p : UInt8 → Prop} (hA : ∀ x ∈ A, p x) (hB : ∀ x ∈ B, ¬ p x) {k : Nat} (h1 : ∀ j (hj : j < (A ++ B).length), j < k → p (A ++ B)[j]) (h2 : k ≤ (A ++ B).length)
    (h3 : ∀ hk : k < (A ++ B).length, ¬ p (A ++ B)[k]) : (A ++ B).take k = A ∧ (A ++ B).drop k = B := by
  have hk : k = A.length := by
    rcases Nat.lt_trichotomy k A.length with h | h | h
    · exact absurd (by rw [List.getElem_append_left h]; exact hA _ (List.getElem_mem _)) (h3 (by simp; omega))
    · exact h
    · have hj : A.length < (A ++ B).length := by omega
      have hp := h1 A.length hj h
      rw [List.getElem_append_right (Nat.le_refl _)] at hp
      exact absurd hp (hB _ (List.getElem_mem _))
  subst hk
  simp

/-- The letters up to the i-th, and those behind it. -/
def ncanA (s : NS) (i : Nat) : List UInt8 := if i = 0 then List.replicate s.a 77 else if i = 1 then List.replicate s.a 77 ++ List.replicate s.b 67 else if i = 2 then List.replicate s.a 77 ++ List.replicate s.b 67 ++ List.replicate s.c 88 else ncan s
def ncanB (s : NS) (i : Nat) : List UInt8 := if i = 0 then List.replicate s.b 67 ++ (List.replicate s.c 88 ++ List.replicate s.d 73) else if i = 1 then List.replicate s.c 88 ++ List.replicate s.d 73 else if i = 2 then List.replicate s.d 73 else []
theorem ncan_AB (s : NS) {i : Nat} (hi : i < 4) : ncanA s i ++ ncanB s i = ncan s := by
  have : i = 0 ∨ i = 1 ∨ i = 2 ∨ i = 3 := by omega
  rcases this with e | e | e | e <;> subst e <;> simp [ncanA, ncanB, ncan]
theorem ncan_inc (s : NS) {i : Nat} (hi : i < 4) : ncanA s i ++ [ltr i] ++ ncanB s i = ncan (s.inc i) := by
  have rep : ∀ n (y : UInt8), List.replicate (n + 1) y = List.replicate n y ++ [y] := fun n y => List.replicate_succ'
  have : i = 0 ∨ i = 1 ∨ i = 2 ∨ i = 3 := by omega
  rcases this with e | e | e | e <;> subst e <;> simp [ncanA, ncanB, ncan, NS.inc, ltr, rep]
theorem lwzu {x : UInt8} {i : Nat} (hi : i < 4) (h : x = ltr i) : lwz (x.toNat : Int) = if i = 0 then 1000 else if i = 1 then 100 else if i = 2 then 10 else 1 := by rw [h]; exact lwz_ltr hi
theorem ncanA_p (s : NS) {i : Nat} (hi : i < 4) : ∀ x ∈ ncanA s i, lwz ((ltr i).toNat : Int) ≤ lwz (x.toNat : Int) := by
  intro x hx
  have : i = 0 ∨ i = 1 ∨ i = 2 ∨ i = 3 := by omega
  rcases this with e | e | e | e <;> subst e <;> simp [ncanA, ncan] at hx
  · rw [hx.2]; decide
  · rcases hx with h | h <;> rw [h.2] <;> decide
  · rcases hx with h | h | h <;> rw [h.2] <;> decide
  · rcases hx with h | h | h | h <;> rw [h.2] <;> decide
theorem ncanB_p (s : NS) {i : Nat} (hi : i < 4) : ∀ x ∈ ncanB s i, ¬ lwz ((ltr i).toNat : Int) ≤ lwz (x.toNat : Int) := by
  intro x hx
  have : i = 0 ∨ i = 1 ∨ i = 2 ∨ i = 3 := by omega
  rcases this with e | e | e | e <;> subst e <;> simp [ncanB] at hx
  · rcases hx with h | h | h <;> rw [h.2] <;> decide
  · rcases hx with h | h <;> rw [h.2] <;> decide
  · rw [hx.2]; decide
theorem get_inc {s : NS} {i : Nat} (hi : i < 4) (h : s.ok) : (s.inc i).ok ↔ s.get i < 9 := by
  obtain ⟨a, b, c, d⟩ := s
  simp only [NS.ok] at h
  have : i = 0 ∨ i = 1 ∨ i = 2 ∨ i = 3 := by omega
  rcases this with e | e | e | e <;> subst e <;> simp [NS.inc, NS.get, NS.ok] <;> omega
theorem get_le {s : NS} (h : s.ok) (i : Nat) : s.get i ≤ 9 := by
  obtain ⟨o1, o2, o3, o4⟩ := h
  unfold NS.get; split <;> (try split) <;> (try split) <;> omega
theorem worth_inc (s : NS) {i : Nat} (hi : i < 4) : (nworth (s.inc i) : Int) = nworth s + p10 (3 - i) := by
  obtain ⟨a, b, c, d⟩ := s
  have : i = 0 ∨ i = 1 ∨ i = 2 ∨ i = 3 := by omega
  rcases this with e | e | e | e <;> subst e <;> simp [NS.inc, nworth, p10] <;> omega

/-- The place of a letter, 4 if it is none. -/
def lix (x : UInt8) : Nat := if x = 77 then 0 else if x = 67 then 1 else if x = 88 then 2 else if x = 73 then 3 else 4
theorem lix_ltr {i : Nat} (hi : i < 4) : lix (ltr i) = i := by
  have : i = 0 ∨ i = 1 ∨ i = 2 ∨ i = 3 := by omega
  rcases this with e | e | e | e <;> subst e <;> decide
theorem lix_other {x : UInt8} (h : ∀ i, i < 4 → x ≠ ltr i) : lix x = 4 := by
  have h0 := h 0 (by omega)
  have h1 := h 1 (by omega)
  have h2 := h 2 (by omega)
  have h3 := h 3 (by omega)
  simp [ltr] at h0 h1 h2 h3
  simp [lix, h0, h1, h2, h3]
/-- The counts with one letter more, if there are such. -/
def cuO (s l : ByteArray) : Option NS := match nrun s.data.toList ns0 with
  | none => none
  | some st => match l.data.toList with
    | [x] => if lix x < 4 ∧ st.get (lix x) < 9 then some (st.inc (lix x)) else none
    | _ => none
def cuR (s l : ByteArray) : ByteArray := match cuO s l with
  | some t => ⟨(ncan t).toArray⟩
  | none => ⟨#[]⟩
def cuB (s l : ByteArray) : Bool := (cuO s l).isSome
theorem cu_none {s l : ByteArray} (h : cuO s l = none) : cuR s l = ⟨#[]⟩ ∧ cuB s l = false := by unfold cuR cuB; rw [h]; exact ⟨rfl, rfl⟩
theorem cu_some {s l : ByteArray} {t : NS} (h : cuO s l = some t) : cuR s l = ⟨(ncan t).toArray⟩ ∧ cuB s l = true := by unfold cuR cuB; rw [h]; exact ⟨rfl, rfl⟩
theorem cuO_inv {s l : ByteArray} (h : nrun s.data.toList ns0 = none) : cuO s l = none := by unfold cuO; rw [h]
theorem one_of {l : ByteArray} (h : l.size = 1) : ∃ x, l = ⟨#[x]⟩ := by
  obtain ⟨⟨d⟩⟩ := l
  simp [ByteArray.size] at h
  match d, h with
  | [x], _ => exact ⟨x, rfl⟩
theorem cuO_len {s l : ByteArray} (h : l.size ≠ 1) : cuO s l = none := by
  unfold cuO
  split
  · rfl
  · split
    · rename_i hx; exfalso; apply h; have : l.data.toList.length = 1 := by rw [hx]; rfl
      rw [← this]; exact Array.length_toList.symm
    · rfl
theorem cuO_at {s : ByteArray} {st : NS} (h : nrun s.data.toList ns0 = some st) (x : UInt8) : cuO s ⟨#[x]⟩ = if lix x < 4 ∧ st.get (lix x) < 9 then some (st.inc (lix x)) else none := by
  unfold cuO; rw [h]
theorem ntx_inc {st : NS} (h : st.ok) : ntx (nworth st) = ⟨(ncan st).toArray⟩ := by unfold ntx; rw [nsOf_nworth h]

set_option maxHeartbeats 1000000 in
theorem iNotchesCut (s l : ByteArray) (w : World) (hs : s.size ≤ 4611686018427387) (hl : l.size ≤ 4611686018427387) :
    Calls Try.prog 17 #[.string s, .string l] w fun e w' => e = .returned (.tuple #[.string (cuR s l), .bool (cuB s l)]) ∧ Below w.heap.size w w' := by
  have hcnt := fun w => notchCounts s w hs
  cases hst : nrun s.data.toList ns0 with
  | none =>
    have hj := cu_none (cuO_inv (l := l) hst)
    rw [hj.1, hj.2]
    have HST := Lib.hid hst
    clear hj hst
    have hc : ∀ w, Calls Try.prog 54 #[.string s] w fun e w' => ∃ st : NS, e = .returned (.tuple #[.agg #[.int .i64 (st.get 0), .int .i64 (st.get 1), .int .i64 (st.get 2), .int .i64 (st.get 3)], .bool false]) ∧ Below w.heap.size w w' := fun w => by
      refine (hcnt w).mono ?_
      rintro e w' ⟨st, ok, rfl, h1, h2, hb⟩
      cases ok with
      | true => have := h1 rfl; rw [HST.out] at this; cases this
      | false => exact ⟨st, rfl, hb⟩
    clear hcnt
    go_enter Try.func17, Try.ntmps17
    go_wp2_with (go_at_call 54; refine (hc _).mono ?_; rintro e w1 ⟨st, rfl, hb1⟩)
    go_ret2
    exact ⟨rfl, hb1.alloc hb1.size _⟩
  | some st =>
    have HST := Lib.hid hst
    have hc : ∀ w, Calls Try.prog 54 #[.string s] w fun e w' => e = .returned (.tuple #[.agg #[.int .i64 (st.get 0), .int .i64 (st.get 1), .int .i64 (st.get 2), .int .i64 (st.get 3)], .bool true]) ∧ Below w.heap.size w w' := fun w => by
      refine (hcnt w).mono ?_
      rintro e w' ⟨st', ok, rfl, h1, h2, hb⟩
      cases ok with
      | true => have := h1 rfl; rw [HST.out] at this; obtain rfl := Option.some.inj this; exact ⟨rfl, hb⟩
      | false => have := h2 rfl; rw [HST.out] at this; cases this
    have hok := (nrun0 hst).1
    have hwo := wo_some hst
    have hwl := nworth_le hok
    by_cases h1 : l.size = 1
    · obtain ⟨x, rfl⟩ := one_of h1
      have hco := cuO_at hst x
      clear hcnt h1 hl hst
      rcases ltr_or x with ⟨i, hi, rfl⟩ | hno
      · rw [lix_ltr hi] at hco
        have hix : ∀ w, Calls Try.prog 55 #[.string ⟨#[77, 67, 88, 73]⟩, .string ⟨#[ltr i]⟩] w fun e w' => e = .returned (.int .i64 (i : Nat)) ∧ w = w' := fun w =>
          (Try.strings_Index_one ⟨#[77, 67, 88, 73]⟩ (ltr i) w).mono fun e w' h => ⟨by rw [h.1]; show Ending.returned (.int .i64 (Lib.indexByte [77, 67, 88, 73] (ltr i))) = _; rw [idx_ltr hi], h.2.symm⟩
        obtain ⟨L, HL⟩ : ∃ L : ByteArray, (⟨#[ltr i]⟩ : ByteArray) = L := ⟨_, rfl⟩
        have hL1 : L.size = 1 := by rw [← HL]; rfl
        rw [HL] at hix hco ⊢
        have hL : ((L.size : Int) != 1) = false := by rw [hL1]; rfl
        clear HL hL1
        have hBc : ∀ (w1 : World), (w1.alloc (.cells #[.int .i64 (st.get 0), .int .i64 (st.get 1), .int .i64 (st.get 2), .int .i64 (st.get 3)] 63)).cell? ⟨w1.heap.size, i, none⟩ = some (.int .i64 (st.get i)) := fun w1 =>
          ((Blk.new w1 63 (nsC st)).cell i).trans (nsC_at st hi)
        by_cases h9 : st.get i < 9
        · rw [if_pos ⟨hi, h9⟩] at hco
          have hj := cu_some hco
          have hok' := (get_inc hi hok).2 h9
          have hwi := worth_inc st hi
          have hwl' := nworth_le hok'
          have hno : noB ((nworth st : Int) + p10 (3 - i)) = true := by unfold noB; simp; omega
          have hnr : noR ((nworth st : Int) + p10 (3 - i)) = ⟨(ncan (st.inc i)).toArray⟩ := by
            rw [noR_yes hno, ← hwi]; exact ntx_inc hok'
          have cw : ∀ w, Calls Try.prog 19 #[.string s] w fun e w' => e = .returned (.int .i64 (nworth st : Nat)) ∧ Below w.heap.size w w' := fun w => by have := iNotchesWorth s w hs; rwa [hwo] at this
          rw [hj.1, hj.2]
          have h9' : ((st.get i : Int) == 9) = false := by simp; omega
          have hp : 0 ≤ p10 (3 - i) ∧ p10 (3 - i) ≤ 1000 := by
            have : i = 0 ∨ i = 1 ∨ i = 2 ∨ i = 3 := by omega
            rcases this with e | e | e | e <;> subst e <;> decide
          obtain ⟨hp0, hp1⟩ := hp
          have HNO := Lib.hid hno
          have HNR := Lib.hid hnr
          clear hco hj hok hok' hwi hno hnr hwo
          go_enter Try.func17, Try.ntmps17
          go_wp2_with (first | (go_at_call 54; refine (hc _).mono ?_; rintro e w1 ⟨rfl, hb1⟩; have hbc := hBc w1) | (go_at_call 55; refine (hix _).mono ?_; rintro e w' ⟨rfl, rfl⟩) | (go_at_call 19; refine (cw _).mono ?_; rintro e w2 ⟨rfl, hb2⟩) | (go_at_call 56; refine (letterWorth _ _ (by omega) (by omega)).mono ?_; rintro e w' ⟨rfl, rfl⟩) | (go_at_call 21; refine (iNotchesOf _ _).mono ?_; rintro e w3 ⟨rfl, hb3⟩))
          go_ret2
          refine ⟨?_, ?_⟩
          · show Ending.returned (.tuple #[.string (noR ((nworth st : Int) + p10 (3 - i))), .bool (noB ((nworth st : Int) + p10 (3 - i)))]) = _
            rw [HNO.out, HNR.out]
          · have hb1' := hb1.alloc hb1.size (.cells #[.int .i64 (st.get 0), .int .i64 (st.get 1), .int .i64 (st.get 2), .int .i64 (st.get 3)] 63)
            have hb12 := hb1'.trans (hb2.mono hb1'.size)
            exact hb12.trans (hb3.mono hb12.size)
        · rw [if_neg (fun h => h9 h.2)] at hco
          have hj := cu_none hco
          rw [hj.1, hj.2]
          have h99 := get_le hok i
          have h9' : ((st.get i : Int) == 9) = true := by simp; omega
          clear hco hj hok h9 h99 hwo
          go_enter Try.func17, Try.ntmps17
          go_wp2_with (first | (go_at_call 54; refine (hc _).mono ?_; rintro e w1 ⟨rfl, hb1⟩; have hbc := hBc w1) | (go_at_call 55; refine (hix _).mono ?_; rintro e w' ⟨rfl, rfl⟩))
          go_ret2
          exact ⟨rfl, hb1.alloc hb1.size _⟩
      · rw [lix_other hno, if_neg (by omega)] at hco
        have hj := cu_none hco
        have hix : ∀ w, Calls Try.prog 55 #[.string ⟨#[77, 67, 88, 73]⟩, .string ⟨#[x]⟩] w fun e w' => e = .returned (.int .i64 (-1)) ∧ w = w' := fun w =>
          (Try.strings_Index_one ⟨#[77, 67, 88, 73]⟩ x w).mono fun e w' h => ⟨by rw [h.1]; show Ending.returned (.int .i64 (Lib.indexByte [77, 67, 88, 73] x)) = _; rw [idx_other hno], h.2.symm⟩
        rw [hj.1, hj.2]
        obtain ⟨L, HL⟩ : ∃ L : ByteArray, (⟨#[x]⟩ : ByteArray) = L := ⟨_, rfl⟩
        have hL1 : L.size = 1 := by rw [← HL]; rfl
        rw [HL] at hix ⊢
        have hL : ((L.size : Int) != 1) = false := by rw [hL1]; rfl
        clear HL hL1 hj hco hno hwo
        go_enter Try.func17, Try.ntmps17
        go_wp2_with (first | (go_at_call 54; refine (hc _).mono ?_; rintro e w1 ⟨rfl, hb1⟩) | (go_at_call 55; refine (hix _).mono ?_; rintro e w' ⟨rfl, rfl⟩))
        go_ret2
        exact ⟨rfl, hb1.alloc hb1.size _⟩
    · have hj := cu_none (cuO_len (s := s) h1)
      rw [hj.1, hj.2]
      have hL : ((l.size : Int) != 1) = true := by simp; omega
      have hL2 : (l.size != 1) = true := by simp; omega
      clear hj hst hcnt h1 hwo
      go_enter Try.func17, Try.ntmps17
      go_wp2_with (go_at_call 54; refine (hc _).mono ?_; rintro e w1 ⟨rfl, hb1⟩)
      go_ret2
      exact ⟨rfl, hb1.alloc hb1.size _⟩

end Go.Proofs.Ytahlflennmdckaa
