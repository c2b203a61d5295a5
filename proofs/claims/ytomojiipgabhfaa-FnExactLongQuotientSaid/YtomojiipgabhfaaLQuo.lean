/- The walks of numerals and of long division, the program's and the reference's, and of the law FnExactLongQuotient. No condition. -/
import Derived.Test.YtomojiipgabhfaaLng
import Derived.Test.YtomojiipgabhfaaInts
import Derived.Laws.BytesArg
namespace Go.Proofs.Ytomojiipgabhfaa
open Go.RowKit
set_option linter.unusedVariables false

theorem bnew (w : World) (o : Obj) : Below w.heap.size w (w.alloc o) := (Below.refl _ _).alloc (Nat.le_refl _) _
theorem bthen {a b c : World} (h : Below a.heap.size a b) (k : Below b.heap.size b c) : Below a.heap.size a c := h.trans (k.mono h.size)
theorem RD.til {k : IntKind} {w w' : World} {A : Option Addr} {zs : List Int} (h : RD k w w.heap.size A zs) (hb : Below w.heap.size w w') : RD k w' w'.heap.size A zs := (h.below hb (Nat.le_refl _)).mono hb.size
theorem dropc (rs : List Int) (j : Nat) (h : j < rs.length) : rs.drop j = ix rs j :: rs.drop (j + 1) := by rw [List.drop_eq_getElem_cons h, ix_eq rs h]

/-- what 'append(xs, v)' does, for elements of whatever type. -/
theorem wpList_pushV {w0 : World} {ops : Array Oper} {rest : List Oper} {o : Oper} {a : Act} {Q : Exit → Act → World → Prop} {ts e : TypeId} {i0 : TypeInfo} {zv : Value} {size bytes : Nat}
    (hts : Try.prog.underlying ts = some (.slice e)) (hi0 : Try.prog.info? e = some i0) (hz0 : i0.zero = some zv) (hz1 : i0.size = size) (hz2 : i0.bytes = bytes) (hzs : zv.cells.size = size) (hsz : 0 < size) (hby : bytes ≤ 64)
    (hgd : o.guard = none) (s x : Operand) (ho : o.op = .call { callee := .builtin .append, args := #[s, x], argTypes := #[ts, ts] })
    (B : Nat) (A : Option Addr) (c n : Nat) (xs : List Value) (hs : a.eval s = .slice A n c) (hown : w0.ownsRow B e size (.slice A n c) n xs) (cs : List Value) (ca : Array Value) (hca : ca.toList = cs) (hcs : cs.length = size) (h1 : ∀ u ∈ cs, u.oneCell' = true)
    (sz : Nat) (hx : a.eval x = .slice (some ⟨sz, 0, none⟩) 1 1) (hsw : sz = w0.heap.size) (hlen : n < 2000000) (hB : B ≤ w0.heap.size)
    (h : ∀ A' c' w', w'.ownsRow B e size (.slice A' (n + 1) c') (n + 1) (xs ++ cs) → w0.grownBy w' (A.map (·.block)) → Below B w0 w' → wpList Try.prog ops Q rest (a.put o.dst (.slice A' (n + 1) c')) w') :
    wpList Try.prog ops Q (o :: rest) a (w0.alloc (.cells ca e)) := by
  subst hsw
  have hown1 := World.ownsRow.alloc hown (.cells ca e)
  refine wpList_append_own_at _ hgd s x ts ho B e i0 zv size bytes hts hi0 hz0 hz1 hz2 hzs hsz _ n _ hs hown1 ⟨w0.heap.size, 0, none⟩ 1 1 cs hx (by omega) ?_ h1 (by simp only [maxLen]; omega) (by have : (n + 1) * bytes ≤ 2000000 * 64 := Nat.mul_le_mul (by omega) hby; omega) (by simp; omega) ?_
  · intro j u hu
    have hj := World.news_of_block (heap_alloc_new w0 (.cells ca e)) j u (by rw [hca]; exact hu)
    exact hj
  · intro v' w' hown' hg hnil hat
    have ee : ∃ A' c', v' = .slice A' (n + 1) c' := by
      rcases hown'.2 with ⟨_, h0⟩ | ⟨g, cap, cur, ee, _⟩
      · omega
      · exact ⟨_, _, ee⟩
    obtain ⟨A', c', rfl⟩ := ee
    rw [ownBlock_slice] at hg
    have hg0 : w0.grownBy w' (A.map (·.block)) :=
      ⟨hg.os, hg.tape, hg.output, by have := hg.size; simp at this; omega, fun k hk hne => (hg.block k (by simp; omega) hne).trans (Below.heap_alloc w0 _ k hk)⟩
    refine h A' c' w' hown' hg0 ⟨hg0.os, hg0.tape, hg0.output, hg0.size, fun k hk => hg0.block k (by omega) (fun e => ?_)⟩
    have := World.ownsRow.lt hown k (by rw [ownBlock_slice]; exact e.symm)
    omega

/-! numerals -/
def dgt (x : Int) : Bool := decide (0 ≤ x) && decide (x ≤ 9)
theorem dgt_iff {x : Int} : dgt x = true ↔ 0 ≤ x ∧ x ≤ 9 := by simp [dgt]
def vldN (zs : List Int) : Bool := (decide (1 ≤ zs.length) && decide (zs.length ≤ 6)) && zs.all dgt
theorem vldN_iff {zs : List Int} : vldN zs = true ↔ (1 ≤ zs.length ∧ zs.length ≤ 6) ∧ ∀ x ∈ zs, dgt x = true := by simp [vldN, List.all_eq_true]
theorem vldN_len {zs : List Int} (h : zs.length < 1 ∨ 6 < zs.length) : vldN zs = false := by
  rw [Bool.eq_false_iff]; intro hv; have := (vldN_iff.1 hv).1; omega
theorem vldN_bad {zs : List Int} (k : Nat) (hk : k < zs.length) (h : dgt (ix zs k) = false) : vldN zs = false := by
  rw [Bool.eq_false_iff]; intro hv
  have := (vldN_iff.1 hv).2 (ix zs k) (by rw [ix_eq zs hk]; exact List.getElem_mem _)
  rw [this] at h; cases h
theorem take_dgt {zs : List Int} {k : Nat} (hlt : k < zs.length) (h : ∀ x ∈ zs.take k, dgt x = true) (hd : dgt (ix zs k) = true) : ∀ x ∈ zs.take (k + 1), dgt x = true := by
  intro x hx
  rw [List.take_succ_eq_append_getElem hlt, List.mem_append] at hx
  rcases hx with hx | hx
  · exact h x hx
  · rw [List.mem_singleton] at hx; rw [hx, ← ix_eq zs hlt]; exact hd
theorem isDigit_yes (n : Int) (w : World) (h1 : 0 ≤ n) (h2 : n ≤ 9) : Calls Try.prog 49 #[.int .i64 n] w fun e w' => e = .returned (.bool true) ∧ w = w' := by
  go_enter Try.func49, Try.ntmps49
  go_wp2_with fail
  go_ret
  exact ⟨ret_bool (by simp <;> omega), rfl⟩
theorem isDigit_no (n : Int) (w : World) (h : n < 0 ∨ 9 < n) : Calls Try.prog 49 #[.int .i64 n] w fun e w' => e = .returned (.bool false) ∧ w = w' := by
  by_cases h1 : n < 0
  · go_enter Try.func49, Try.ntmps49
    go_wp2_with fail
    go_ret
    exact ⟨ret_bool (by simp <;> omega), rfl⟩
  · have h2 : 9 < n := by omega
    have h3 : 0 ≤ n := by omega
    clear h h1
    go_enter Try.func49, Try.ntmps49
    go_wp2_with fail
    go_ret
    exact ⟨ret_bool (by simp <;> omega), rfl⟩
theorem u8_info : (Try.prog.info? 5).map (fun i => (i.zero, i.size, i.bytes)) = some (some (.int .u8 0), 1, 1) := by kernel_rfl
def RetSB (w : World) (b : Bool) (e : Ending) (w' : World) : Prop := ∃ s, e = .returned (.tuple #[.string s, .bool b]) ∧ Below w.heap.size w w'

set_option maxHeartbeats 1000000 in
theorem digitsOf_any (A : Option Addr) (c : Nat) (zs : List Int) (w : World) (hA : RD .i64 w w.heap.size A zs) (hl : zs.length ≤ 1048576) :
    Calls Try.prog 47 #[.slice A zs.length c] w (RetSB w (vldN zs)) := by
  by_cases h0 : zs.length < 1
  · have HV := Lib.hid (vldN_len (.inl h0))
    have h0' : (zs.length : Int) < 1 := by omega
    clear h0
    go_enter Try.func47, Try.ntmps47
    go_wp2_with fail
    go_ret2
    rw [HV.out]
    exact ⟨_, rfl, Below.refl _ _⟩
  by_cases h6 : 6 < zs.length
  · have HV := Lib.hid (vldN_len (.inr h6))
    have h0' : ¬ (zs.length : Int) < 1 := by omega
    have h6' : (6 : Int) < zs.length := by omega
    clear h0 h6
    go_enter Try.func47, Try.ntmps47
    go_wp2_with fail
    go_ret2
    rw [HV.out]
    exact ⟨_, rfl, Below.refl _ _⟩
  have h0' : ¬ (zs.length : Int) < 1 := by omega
  have h6' : ¬ (6 : Int) < zs.length := by omega
  obtain ⟨i0, hi0, hz0, hz1, hz2⟩ := info_parts u8_info
  have HI := Lib.hid (And.intro hi0 (And.intro hz0 (And.intro hz1 hz2)))
  clear hi0 hz0 hz1 hz2
  go_enter Try.func47, Try.ntmps47
  go_wp2_with (at_make; refine wpList_make_own w rfl _ _ _ rfl w.heap.size 5 i0 _ 1 Try.underlying22 HI.out.1 HI.out.2.1 HI.out.2.2.1 .i64 .i64 6 6 rfl rfl rfl (by rw [HI.out.2.2.2]; omega) (by simp [maxLen]) (Nat.le_refl _) ?_; intro w1 hown1 hg1)
  go_loopw [4, 18] (fun s i wr => ∃ (k : Nat) (A' : Option Addr) (c' : Nat) (bs : List Int), k ≤ zs.length ∧ i = .int .i64 k ∧ s = .slice A' k c' ∧ Hid (bs.length = k) ∧ wr.ownsRow w.heap.size 5 1 (.slice A' k c') k (bs.map (Value.int .u8)) ∧ Hid (∀ x ∈ zs.take k, dgt x = true) ∧ Below w.heap.size w wr) (fun _ i _ => zs.length - (intOf i).toNat)
  case atStart => exact ⟨0, _, _, [], Nat.zero_le _, rfl, rfl, rfl, hown1, by simp [Hid], ⟨hg1.os, hg1.tape, hg1.output, hg1.size, fun k hk => hg1.block k hk (by simp)⟩⟩
  case round =>
    obtain ⟨k, A', c', bs, hk, rfl, rfl, HBL, hown, HD, hb⟩ := hrel
    by_cases hlt : k < zs.length
    · obtain ⟨b, off, rfl, hbb, hc⟩ := (hA.below hb (Nat.le_refl _)).at_ hlt
      have HB := Lib.hid (vldN_bad (zs := zs) k hlt)
      have HT := Lib.hid (take_dgt hlt HD.out)
      have hkl : k < 2000000 := by omega
      generalize ix zs k = x at *
      by_cases hx : 0 ≤ x ∧ x ≤ 9
      · have HX := Lib.hid (dgt_iff.2 hx)
        obtain ⟨x1, x2⟩ := hx
        go_wp2_with (first | (go_at_call 49; refine (isDigit_yes _ _ x1 x2).mono ?_; rintro e w' ⟨rfl, rfl⟩) | (at_builtin; refine wpList_pushV Try.underlying22 HI.out.1 HI.out.2.1 HI.out.2.2.1 HI.out.2.2.2 rfl (by omega) (by omega) rfl _ _ rfl w.heap.size A' c' k (bs.map (Value.int .u8)) rfl hown _ _ rfl rfl (by simp [Value.oneCell']) _ rfl (by simp) hkl hb.size ?_; intro A2 c2 w2 hown2 hg2 hb2))
        go_roundw
        case rel => exact ⟨k + 1, A2, c2, bs ++ [_], by omega, by go_num, rfl, by show _ = _; simp [HBL.out], by rw [List.map_append]; exact hown2, HT.out HX.out, hb.trans hb2⟩
        case measure => simp [intOf] <;> omega
      · have HX := Lib.hid (show dgt x = false by rw [Bool.eq_false_iff]; exact fun h => hx (dgt_iff.1 h))
        have hx' : x < 0 ∨ 9 < x := by omega
        have HX2 := Lib.hid hx'
        clear hx hx'
        go_wp2_with (go_at_call 49; refine (isDigit_no _ _ HX2.out).mono ?_; rintro e w' ⟨rfl, rfl⟩)
        go_ret2
        rw [HB.out HX.out]
        exact ⟨_, rfl, hb⟩
    · have HV := Lib.hid (show vldN zs = true from vldN_iff.2 ⟨by omega, by have := HD.out; rw [List.take_of_length_le (by omega)] at this; exact this⟩)
      obtain ⟨g, cap, eg, hgb, hgl⟩ := World.ownsRow.form hown (by omega)
      injection eg with e1 e2 e3
      subst e1 e3
      have hcv := run_convert_bytes_arg (P := Try.prog) wr 22 5 Try.underlying22 Try.underlying5 g 0 k c' bs HBL.out (fun i hi => by
        rw [Nat.zero_add, World.ownsRow.cellAt hown i (by omega), List.getElem?_map, List.getD_eq_getElem?_getD, List.getElem?_eq_getElem (by rw [HBL.out]; exact hi)]
        rfl) 9 Try.underlying9
      go_wp2_with fail
      go_ret2
      rw [HV.out]
      exact ⟨_, rfl, hb⟩
theorem iNumeralValid_any (A : Option Addr) (c : Nat) (zs : List Int) (w : World) (hA : RD .i64 w w.heap.size A zs) (hl : zs.length ≤ 1048576) :
    Calls Try.prog 43 #[.slice A zs.length c] w fun e w' => e = .returned (.bool (vldN zs)) ∧ Below w.heap.size w w' := by
  go_enter Try.func43, Try.ntmps43
  go_wp2_with fail
  refine (digitsOf_any A c zs _ hA hl).mono ?_
  rintro e w1 ⟨s, rfl, hb⟩
  go_wp2_with fail
  go_ret
  exact ⟨rfl, hb⟩
theorem l3Digit_yes (n : Int) (w : World) (h1 : 0 ≤ n) (h2 : n ≤ 9) : Calls Try.prog 46 #[.int .i64 n] w fun e w' => e = .returned (.bool true) ∧ w = w' := by
  go_enter Try.func46, Try.ntmps46
  go_wp2_with (go_at_call 31; refine (l6In_yes _ _ _ _ h1 h2).mono ?_; rintro e w' ⟨rfl, rfl⟩)
  go_ret
  exact ⟨rfl, rfl⟩
theorem l3Digit_no (n : Int) (w : World) (h : n < 0 ∨ 9 < n) : Calls Try.prog 46 #[.int .i64 n] w fun e w' => e = .returned (.bool false) ∧ w = w' := by
  have H := Lib.hid h
  clear h
  go_enter Try.func46, Try.ntmps46
  go_wp2_with (go_at_call 31; refine (l6In_no _ _ _ _ H.out).mono ?_; rintro e w' ⟨rfl, rfl⟩)
  go_ret
  exact ⟨rfl, rfl⟩
set_option maxHeartbeats 400000 in
theorem sNumeralValid_any (A : Option Addr) (c : Nat) (zs : List Int) (w : World) (hA : RD .i64 w w.heap.size A zs) (hl : zs.length ≤ 1048576) :
    Calls Try.prog 42 #[.slice A zs.length c] w fun e w' => e = .returned (.bool (vldN zs)) ∧ w = w' := by
  go_enter Try.func42, Try.ntmps42
  go_wp2_with fail
  go_loop [3] (fun i => ∃ k : Nat, k ≤ zs.length ∧ i = .int .i64 k ∧ Hid (∀ x ∈ zs.take k, dgt x = true)) (fun i => zs.length - (intOf i).toNat)
  case atStart => exact ⟨0, Nat.zero_le _, rfl, by simp [Hid]⟩
  case round =>
    obtain ⟨k, hk, rfl, HD⟩ := hrel
    by_cases hlt : k < zs.length
    · obtain ⟨b, off, rfl, hbb, hc⟩ := hA.at_ hlt
      have HB := Lib.hid (vldN_bad (zs := zs) k hlt)
      have HT := Lib.hid (take_dgt hlt HD.out)
      generalize ix zs k = x at *
      by_cases hx : 0 ≤ x ∧ x ≤ 9
      · have HX := Lib.hid (dgt_iff.2 hx)
        obtain ⟨x1, x2⟩ := hx
        go_wp2_with (go_at_call 46; refine (l3Digit_yes _ _ x1 x2).mono ?_; rintro e w' ⟨rfl, rfl⟩)
        go_round
        case rel => exact ⟨k + 1, by omega, by go_num, HT.out HX.out⟩
        case measure => simp [intOf] <;> omega
      · have HX := Lib.hid (show dgt x = false by rw [Bool.eq_false_iff]; exact fun h => hx (dgt_iff.1 h))
        have hx' : x < 0 ∨ 9 < x := by omega
        have HX2 := Lib.hid hx'
        clear hx hx'
        go_wp2_with (go_at_call 46; refine (l3Digit_no _ _ HX2.out).mono ?_; rintro e w' ⟨rfl, rfl⟩)
        go_ret
        rw [HB.out HX.out]
        exact ⟨rfl, rfl⟩
    · have HA := Lib.hid (show ∀ x ∈ zs, dgt x = true by have := HD.out; rw [List.take_of_length_le (by omega)] at this; exact this)
      by_cases h6 : 1 ≤ zs.length ∧ zs.length ≤ 6
      · have HV := Lib.hid (show vldN zs = true from vldN_iff.2 ⟨h6, HA.out⟩)
        have q1 : (1 : Int) ≤ zs.length := by omega
        have q2 : (zs.length : Int) ≤ 6 := by omega
        clear h6
        go_wp2_with (go_at_call 31; refine (l6In_yes _ _ _ _ q1 q2).mono ?_; rintro e w' ⟨rfl, rfl⟩)
        go_ret
        rw [HV.out]
        exact ⟨rfl, rfl⟩
      · have HV := Lib.hid (vldN_len (zs := zs) (by omega))
        have q : (zs.length : Int) < 1 ∨ (6 : Int) < zs.length := by omega
        have HQ := Lib.hid q
        clear q h6
        go_wp2_with (go_at_call 31; refine (l6In_no _ _ _ _ HQ.out).mono ?_; rintro e w' ⟨rfl, rfl⟩)
        go_ret
        rw [HV.out]
        exact ⟨rfl, rfl⟩

end Go.Proofs.Ytomojiipgabhfaa
