/- The walks of LongSteps and LongQuotient, the program's and the reference's, and of the law FnExactLongQuotient. No condition. -/
import Derived.Test.YtomojiipgabhfaaLQuo
namespace Go.Proofs.Ytomojiipgabhfaa
open Go.RowKit
set_option linter.unusedVariables false

/-- the steps of a long division. -/
def stp (d : Int) : List Int → Int → List (Int × Int)
  | [], _ => []
  | x :: xs, r => ((r * 10 + x) / d, (r * 10 + x) % d) :: stp d xs ((r * 10 + x) % d)
theorem stp_len (d : Int) (zs : List Int) (r : Int) : (stp d zs r).length = zs.length := by
  induction zs generalizing r with
  | nil => rfl
  | cons x xs ih => simp [stp, ih]
theorem stp_bd (d : Int) (hd : 1 ≤ d) (zs : List Int) (r : Int) (h0 : 0 ≤ r) (h1 : r < d) (hz : ∀ x ∈ zs, dgt x = true) : ∀ p ∈ stp d zs r, 0 ≤ p.1 ∧ p.1 ≤ 9 ∧ 0 ≤ p.2 ∧ p.2 < d := by
  induction zs generalizing r with
  | nil => simp [stp]
  | cons x xs ih =>
    have hx := dgt_iff.1 (hz x (by simp))
    have m1 := Int.emod_nonneg (r * 10 + x) (show d ≠ 0 by omega)
    have m2 := Int.emod_lt_of_pos (r * 10 + x) (show 0 < d by omega)
    intro p hp
    rcases List.mem_cons.1 hp with rfl | hp
    · refine ⟨Int.ediv_nonneg (by omega) (by omega), ?_, m1, m2⟩
      have : (r * 10 + x) / d < 10 := Int.ediv_lt_of_lt_mul (by omega) (by omega)
      show (r * 10 + x) / d ≤ 9
      omega
    · exact ih _ m1 m2 (fun y hy => hz y (by simp [hy])) p hp
def qv (l : List (Int × Int)) (q : Int) : Int := l.foldl (fun q p => q * 10 + p.1) q
def rv (l : List (Int × Int)) (r : Int) : Int := l.foldl (fun _ p => p.2) r
def gp (l : List (Int × Int)) (i : Nat) : Int × Int := l.getD i (0, 0)
theorem gp_mem {l : List (Int × Int)} {i : Nat} (h : i < l.length) : gp l i ∈ l := by
  have : gp l i = l[i] := by simp [gp, List.getD_eq_getElem?_getD, h]
  rw [this]; exact List.getElem_mem _
theorem drop_gp {l : List (Int × Int)} {i : Nat} (h : i < l.length) : l.drop i = gp l i :: l.drop (i + 1) := by
  have : gp l i = l[i] := by simp [gp, List.getD_eq_getElem?_getD, h]
  rw [this, List.drop_eq_getElem_cons h]
theorem rv_last (l : List (Int × Int)) (r : Int) (h : 0 < l.length) : rv l r = (gp l (l.length - 1)).2 := by
  induction l generalizing r with
  | nil => simp at h
  | cons p l ih =>
    cases l with
    | nil => rfl
    | cons q l =>
      have := ih p.2 (by simp)
      show rv (q :: l) p.2 = _
      rw [this]
      simp [gp]
def flat (l : List (Int × Int)) : List Value := l.flatMap fun p => [.int .i64 p.1, .int .i64 p.2]
theorem flat_app (l : List (Int × Int)) (p : Int × Int) : flat (l ++ [p]) = flat l ++ [.int .i64 p.1, .int .i64 p.2] := by simp [flat]
theorem flat_get (l : List (Int × Int)) (i : Nat) (h : i < l.length) : (flat l)[i * 2]? = some (.int .i64 (gp l i).1) ∧ (flat l)[i * 2 + 1]? = some (.int .i64 (gp l i).2) := by
  induction l generalizing i with
  | nil => simp at h
  | cons p l ih =>
    cases i with
    | zero => simp [flat, gp]
    | succ i =>
      have := ih i (by simpa using h)
      have e : flat (p :: l) = .int .i64 p.1 :: .int .i64 p.2 :: flat l := by simp [flat]
      rw [e, show (i + 1) * 2 = i * 2 + 1 + 1 by omega, show i * 2 + 1 + 1 + 1 = (i * 2 + 1) + 1 + 1 by omega]
      simp only [List.getElem?_cons_succ]
      simpa [gp] using this
/-- a row of steps that a call made. -/
def SR (w : World) (B : Nat) (A : Option Addr) (c : Nat) (l : List (Int × Int)) : Prop := w.ownsRow B 51 2 (.slice A l.length c) l.length (flat l)
theorem SR.at_ {w : World} {B : Nat} {A : Option Addr} {c : Nat} {l : List (Int × Int)} (h : SR w B A c l) {i : Nat} (hi : i < l.length) : ∃ g, A = some ⟨g, 0, none⟩ ∧ B ≤ g ∧ g < w.heap.size ∧ w.cell? ⟨g, i * 2, none⟩ = some (.int .i64 (gp l i).1) ∧ w.cell? ⟨g, i * 2 + 1, none⟩ = some (.int .i64 (gp l i).2) := by
  obtain ⟨g, cap, e, hb, hl⟩ := World.ownsRow.form h (by omega)
  injection e with e1 e2 e3
  subst e1
  obtain ⟨f1, f2⟩ := flat_get l i hi
  exact ⟨g, rfl, hb, hl, (World.ownsRow.cellAt h (i * 2) (by omega)).trans f1, (World.ownsRow.cellAt h (i * 2 + 1) (by omega)).trans f2⟩
theorem SR.below {w w' : World} {B B' : Nat} {A : Option Addr} {c : Nat} {l : List (Int × Int)} (h : SR w B A c l) (hb : Below B' w w') (hB : w.heap.size ≤ B') : SR w' B A c l := by
  refine World.ownsRow.kept (row := none) h ⟨hb.os, hb.tape, hb.output, hb.size, fun k hk _ => hb.block k (by omega)⟩ ?_
  rcases h.2 with ⟨e, h0⟩ | ⟨g, cap, cur, e, _⟩
  · left; rw [e]; rfl
  · right; rw [e]; simp [Value.ownBlock]
theorem SR.alloc {w : World} {B : Nat} {A : Option Addr} {c : Nat} {l : List (Int × Int)} (h : SR w B A c l) (o : Obj) : SR (w.alloc o) B A c l := World.ownsRow.alloc h o
theorem SR.mono {w : World} {B B' : Nat} {A : Option Addr} {c : Nat} {l : List (Int × Int)} (h : SR w B A c l) (hB : B' ≤ B) : SR w B' A c l := by
  refine ⟨h.1, ?_⟩
  rcases h.2 with hn | ⟨g, cap, cur, e, hb, rest⟩
  · exact .inl hn
  · exact .inr ⟨g, cap, cur, e, by omega, rest⟩
theorem SR.span {w : World} {B : Nat} {A : Option Addr} {c : Nat} {l : List (Int × Int)} (h : SR w B A c l) : ∀ g, A.map (·.block) = some g → B ≤ g ∧ g < w.heap.size := fun g hg =>
  World.ownsRow.lt h g (by rw [ownBlock_slice]; exact hg)
theorem SR.grown {w w' : World} {B : Nat} {A : Option Addr} {c : Nat} {l : List (Int × Int)} (h : SR w B A c l) {row : Option Nat} (hg : w.grownBy w' row) (hne : ∀ g, A.map (·.block) = some g → row ≠ some g) : SR w' B A c l := by
  refine World.ownsRow.kept h hg ?_
  rcases h.2 with ⟨e, h0⟩ | ⟨g, cap, cur, e, _⟩
  · left; rw [e]; rfl
  · injection e with e1
    subst e1
    right; intro e'; exact hne g rfl e'.symm
theorem step_info : (Try.prog.info? 51).map (fun i => (i.zero, i.size, i.bytes)) = some (some (.agg #[.int .i64 0, .int .i64 0]), 2, 16) := by kernel_rfl
def RetST (w : World) (l : List (Int × Int)) (b : Bool) (e : Ending) (w' : World) : Prop := ∃ A c, e = .returned (.tuple #[.slice A l.length c, .bool b]) ∧ SR w' w.heap.size A c l ∧ Below w.heap.size w w'
def okL (zs : List Int) (d : Int) : Bool := vldN zs && (decide (1 ≤ d) && decide (d ≤ 100000))
theorem okL_iff {zs : List Int} {d : Int} : okL zs d = true ↔ vldN zs = true ∧ 1 ≤ d ∧ d ≤ 100000 := by simp [okL]
def stL (zs : List Int) (d : Int) : List (Int × Int) := if okL zs d then stp d zs 0 else []
theorem stL_yes {zs : List Int} {d : Int} (h : okL zs d = true) : stL zs d = stp d zs 0 := if_pos h
theorem stL_no {zs : List Int} {d : Int} (h : okL zs d = false) : stL zs d = [] := if_neg (by simp [h])
theorem okL_bad1 {zs : List Int} {d : Int} (h : vldN zs = false) : okL zs d = false := by simp [okL, h]
theorem okL_bad2 {zs : List Int} {d : Int} (h : d < 1 ∨ 100000 < d) : okL zs d = false := by
  rw [Bool.eq_false_iff]; intro h'; have := okL_iff.1 h'; omega

theorem sr_empty (w : World) : SR (w.alloc (.cells #[] 51)) w.heap.size (some ⟨w.heap.size, 0, none⟩) 0 [] :=
  World.ownsRow_lit w #[] 0 (Nat.le_refl _) (by simp [maxLen]) rfl

set_option maxHeartbeats 1000000 in
theorem sLongSteps_any (A : Option Addr) (c : Nat) (zs : List Int) (d : Int) (w : World) (hA : RD .i64 w w.heap.size A zs) (hl : zs.length ≤ 1048576) :
    Calls Try.prog 35 #[.slice A zs.length c, .int .i64 d] w (RetST w (stL zs d) (okL zs d)) := by
  have hb0 := bnew w (.cells #[] 51)
  cases hv : vldN zs with
  | false =>
    have HV := Lib.hid hv
    have HO := Lib.hid (okL_bad1 (d := d) hv)
    clear hv
    go_enter Try.func35, Try.ntmps35
    go_wp2_with fail
    refine (sNumeralValid_any A c zs _ (hA.til hb0) hl).mono ?_
    rintro e w' ⟨rfl, rfl⟩
    rw [HV.out]
    go_wp2_with fail
    go_ret2
    rw [stL_no HO.out, HO.out]
    exact ⟨_, _, rfl, sr_empty w, hb0⟩
  | true =>
    have HV := Lib.hid hv
    by_cases hd : 1 ≤ d ∧ d ≤ 100000
    · have HO := Lib.hid (okL_iff.2 ⟨hv, hd⟩)
      obtain ⟨d1, d2⟩ := hd
      have HZ := Lib.hid (vldN_iff.1 hv)
      have hz6 := (vldN_iff.1 hv).1
      clear hv
      obtain ⟨i0, hi0, hz0, hz1, hz2⟩ := info_parts step_info
      have HI := Lib.hid (And.intro hi0 (And.intro hz0 (And.intro hz1 hz2)))
      clear hi0 hz0 hz1 hz2
      have hA' := hA.til hb0
      go_enter Try.func35, Try.ntmps35
      go_wp2_with fail
      refine (sNumeralValid_any A c zs _ hA' hl).mono ?_
      rintro e w' ⟨rfl, rfl⟩
      rw [HV.out]
      go_wp2_with (go_at_call 31; refine (l6In_yes _ _ _ _ d1 d2).mono ?_; rintro e w' ⟨rfl, rfl⟩)
      go_loopw [6, 7, 8] (fun s r i wr => ∃ (k : Nat) (m : Int) (dn : List (Int × Int)) (A' : Option Addr) (c' : Nat), k ≤ zs.length ∧ i = .int .i64 k ∧ r = .int .i64 m ∧ 0 ≤ m ∧ m < d ∧ s = .slice A' dn.length c' ∧ Hid (dn.length = k) ∧ SR wr w.heap.size A' c' dn ∧ Below w.heap.size w wr ∧ Hid (dn ++ stp d (zs.drop k) m = stp d zs 0)) (fun _ _ i _ => zs.length - (intOf i).toNat)
      case atStart => exact ⟨0, 0, [], _, _, Nat.zero_le _, rfl, rfl, by omega, by omega, rfl, rfl, sr_empty w, hb0, rfl⟩
      case round =>
        obtain ⟨k, m, dn, A', c', hk, rfl, rfl, m0, m1, rfl, HDL, hown, hb, HS⟩ := hrel
        by_cases hlt : k < zs.length
        · obtain ⟨b, off, rfl, hbb, hc⟩ := (hA.below hb (Nat.le_refl _)).at_ hlt
          have hx := dgt_iff.1 (HZ.out.2 (ix zs k) (by rw [ix_eq zs hlt]; exact List.getElem_mem _))
          have HT := Lib.hid HS.out
          rw [dropc zs k hlt, stp] at HT
          have hdl : dn.length ≤ 6 := by rw [HDL.out]; omega
          clear HS
          generalize ix zs k = x at *
          have e1 := Int.emod_nonneg (m * 10 + x) (show d ≠ 0 by omega)
          have e2 := Int.emod_lt_of_pos (m * 10 + x) (show 0 < d by omega)
          have HC := Lib.hid (show 10 * m + x = m * 10 + x by omega)
          have hd0 : ¬ d = 0 := by omega
          go_wp2_with (at_builtin; refine wpList_pushV Try.underlying47 HI.out.1 HI.out.2.1 HI.out.2.2.1 HI.out.2.2.2 rfl (by omega) (by omega) rfl _ _ rfl w.heap.size A' c' dn.length (flat dn) rfl hown _ _ rfl rfl (by simp [Value.oneCell']) _ rfl (by simp) (by omega) hb.size ?_; intro A2 c2 w2 hown2 hg2 hb2)
          rw [HC.out] at hown2 ⊢
          go_roundw
          case rel =>
            refine ⟨k + 1, (m * 10 + x) % d, dn ++ [((m * 10 + x) / d, (m * 10 + x) % d)], A2, c2, by omega, by go_num, rfl, e1, e2, by simp, by show _ = _; simp [HDL.out], ?_, hb.trans hb2, by show _ = _; rw [← HT.out]; simp⟩
            unfold SR
            rw [flat_app, List.length_append]
            exact hown2
          case measure => simp [intOf] <;> omega
        · have HE : Hid (dn = stp d zs 0) := by
            show _ = _
            rw [← HS.out, List.drop_of_length_le (by omega)]; simp [stp]
          go_wp2_with fail
          go_ret2
          rw [stL_yes HO.out, HO.out, ← HE.out]
          exact ⟨A', c', rfl, hown, hb⟩
    · have hd' : d < 1 ∨ 100000 < d := by omega
      have HD := Lib.hid hd'
      have HO := Lib.hid (okL_bad2 (zs := zs) hd')
      clear hv hd hd'
      go_enter Try.func35, Try.ntmps35
      go_wp2_with fail
      refine (sNumeralValid_any A c zs _ (hA.til hb0) hl).mono ?_
      rintro e w' ⟨rfl, rfl⟩
      rw [HV.out]
      go_wp2_with (go_at_call 31; refine (l6In_no _ _ _ _ HD.out).mono ?_; rintro e w' ⟨rfl, rfl⟩)
      go_ret2
      rw [stL_no HO.out, HO.out]
      exact ⟨_, _, rfl, sr_empty w, hb0⟩

theorem isFac_yes (n : Int) (w : World) (h1 : 1 ≤ n) (h2 : n ≤ 100000) : Calls Try.prog 44 #[.int .i64 n] w fun e w' => e = .returned (.bool true) ∧ w = w' := by
  go_enter Try.func44, Try.ntmps44
  go_wp2_with fail
  go_ret
  exact ⟨ret_bool (by simp <;> omega), rfl⟩
theorem isFac_no (n : Int) (w : World) (h : n < 1 ∨ 100000 < n) : Calls Try.prog 44 #[.int .i64 n] w fun e w' => e = .returned (.bool false) ∧ w = w' := by
  by_cases h1 : n < 1
  · go_enter Try.func44, Try.ntmps44
    go_wp2_with fail
    go_ret
    exact ⟨ret_bool (by simp <;> omega), rfl⟩
  · have h2 : 100000 < n := by omega
    have h3 : 1 ≤ n := by omega
    clear h h1
    go_enter Try.func44, Try.ntmps44
    go_wp2_with fail
    go_ret
    exact ⟨ret_bool (by simp <;> omega), rfl⟩
theorem sr_nil (w : World) (B : Nat) : SR w B none 0 [] := World.ownsRow_nil _ _ _ _

set_option maxHeartbeats 1000000 in
theorem iLongSteps_any (A : Option Addr) (c : Nat) (zs : List Int) (d : Int) (w : World) (hA : RD .i64 w w.heap.size A zs) (hl : zs.length ≤ 1048576) :
    Calls Try.prog 36 #[.slice A zs.length c, .int .i64 d] w (RetST w (stL zs d) (okL zs d)) := by
  cases hv : vldN zs with
  | false =>
    have HV := Lib.hid hv
    have HO := Lib.hid (okL_bad1 (d := d) hv)
    clear hv
    go_enter Try.func36, Try.ntmps36
    go_wp2_with fail
    refine (iNumeralValid_any A c zs _ hA hl).mono ?_
    rintro e w1 ⟨rfl, hb1⟩
    rw [HV.out]
    go_wp2_with fail
    go_ret2
    rw [stL_no HO.out, HO.out]
    exact ⟨_, _, rfl, sr_nil _ _, hb1⟩
  | true =>
    have HV := Lib.hid hv
    by_cases hd : 1 ≤ d ∧ d ≤ 100000
    · have HO := Lib.hid (okL_iff.2 ⟨hv, hd⟩)
      obtain ⟨d1, d2⟩ := hd
      have HZ := Lib.hid (vldN_iff.1 hv)
      have hz6 := (vldN_iff.1 hv).1
      clear hv
      obtain ⟨i0, hi0, hz0, hz1, hz2⟩ := info_parts step_info
      have HI := Lib.hid (And.intro hi0 (And.intro hz0 (And.intro hz1 hz2)))
      clear hi0 hz0 hz1 hz2
      go_enter Try.func36, Try.ntmps36
      go_wp2_with fail
      refine (iNumeralValid_any A c zs _ hA hl).mono ?_
      rintro e w1 ⟨rfl, hb1⟩
      rw [HV.out]
      go_wp2_with (go_at_call 44; refine (isFac_yes _ _ d1 d2).mono ?_; rintro e w' ⟨rfl, rfl⟩)
      refine (longDivision_any d 0 _).mono ?_
      rintro e w2 ⟨rfl, hD, hR, hb2, hz2⟩
      have hbb := bthen hb1 hb2
      go_wp2_with (at_make; refine wpList_make_own w2 rfl _ _ _ rfl w2.heap.size 51 i0 _ 2 Try.underlying47 HI.out.1 HI.out.2.1 HI.out.2.2.1 .i64 .i64 _ zs.length rfl rfl rfl (by rw [HI.out.2.2.2]; omega) (by simp only [maxLen]; omega) (Nat.le_refl _) ?_; intro w3 hown3 hg3)
      have hb3 : Below w2.heap.size w2 w3 := ⟨hg3.os, hg3.tape, hg3.output, hg3.size, fun k hk => hg3.block k hk (by simp)⟩
      have hD3 := hD.below hb3 (by omega)
      have hR3 := hR.below hb3 (by omega)
      have T3 := bthen hbb hb3
      have hs1 := hb1.size
      clear hD hR hg3
      generalize hG : w1.heap.size = G at *
      clear hG
      go_loopw [7, 25] (fun s i wr => ∃ (k : Nat) (m : Int) (dn : List (Int × Int)) (A' : Option Addr) (c' : Nat), k ≤ zs.length ∧ i = .int .i64 k ∧ 0 ≤ m ∧ m < d ∧ s = .slice A' dn.length c' ∧ Hid (dn.length = k) ∧ Box wr G d ∧ Box wr (G + 1) m ∧ SR wr w2.heap.size A' c' dn ∧ w2.heap.size ≤ wr.heap.size ∧ Below w.heap.size w wr ∧ Hid (dn ++ stp d (zs.drop k) m = stp d zs 0)) (fun _ i _ => zs.length - (intOf i).toNat)
      case atStart => exact ⟨0, 0, [], _, _, Nat.zero_le _, rfl, by omega, by omega, rfl, rfl, hD3, hR3, hown3, hb3.size, T3, rfl⟩
      case round =>
        obtain ⟨k, m, dn, A', c', hk, rfl, m0, m1, rfl, HDL, hD, hR, hown, hsz, hb, HS⟩ := hrel
        by_cases hlt : k < zs.length
        · obtain ⟨b, off, rfl, hbb', hc⟩ := (hA.below hb (Nat.le_refl _)).at_ hlt
          have hx := dgt_iff.1 (HZ.out.2 (ix zs k) (by rw [ix_eq zs hlt]; exact List.getElem_mem _))
          have HT := Lib.hid HS.out
          rw [dropc zs k hlt, stp] at HT
          have hdl : dn.length ≤ 6 := by rw [HDL.out]; omega
          clear HS
          generalize ix zs k = x at *
          have e1 := Int.emod_nonneg (m * 10 + x) (show d ≠ 0 by omega)
          have e2 := Int.emod_lt_of_pos (m * 10 + x) (show 0 < d by omega)
          have hsp := hown.span
          go_wp2_with fail
          refine (longStep_any (G + 1) G m d x _ hR hD (by omega) m0 (by omega) d1 (by omega) hx.1 hx.2).mono ?_
          rintro e w4 ⟨rfl, hR4, hg4⟩
          have hD4 := hD.grown hg4 (by simp)
          have ho4 := SR.grown hown hg4 (fun g e e' => by have := hsp g e; injection e' with e'; omega)
          have hb4 : Below w.heap.size w w4 := hb.grown hg4 hb.size (fun k e => by injection e with e; omega)
          have hs4 := hg4.size
          have hsp4 := ho4.span
          generalize (m * 10 + x) / d = q at *
          generalize (m * 10 + x) % d = r at *
          go_wp2_with (at_builtin; refine wpList_pushV Try.underlying47 HI.out.1 HI.out.2.1 HI.out.2.2.1 HI.out.2.2.2 rfl (by omega) (by omega) rfl _ _ rfl w2.heap.size A' c' dn.length (flat dn) rfl ho4 _ _ rfl rfl (by simp [Value.oneCell']) _ rfl (by simp) (by omega) (by omega) ?_; intro A5 c5 w5 hown5 hg5 hb5)
          have hne5 : ∀ j, j < w2.heap.size → some j ≠ A'.map (·.block) := fun j hj e => by have := hsp4 j e.symm; omega
          go_roundw
          case rel =>
            refine ⟨k + 1, r, dn ++ [(q, r)], A5, c5, by omega, by go_num, e1, e2, by simp, by show _ = _; simp [HDL.out], hD4.grown hg5 (hne5 _ (by omega)), hR4.grown hg5 (hne5 _ (by omega)), ?_, by have := hg5.size; omega, hb4.trans (hb5.mono (by omega)), by show _ = _; rw [← HT.out]; simp⟩
            unfold SR
            rw [flat_app, List.length_append]
            exact hown5
          case measure => simp [intOf] <;> omega
        · have HE : Hid (dn = stp d zs 0) := by
            show _ = _
            rw [← HS.out, List.drop_of_length_le (by omega)]; simp [stp]
          go_wp2_with fail
          go_ret2
          rw [stL_yes HO.out, HO.out, ← HE.out]
          exact ⟨A', c', rfl, hown.mono (by omega), hb⟩
    · have hd' : d < 1 ∨ 100000 < d := by omega
      have HD := Lib.hid hd'
      have HO := Lib.hid (okL_bad2 (zs := zs) hd')
      clear hv hd hd'
      go_enter Try.func36, Try.ntmps36
      go_wp2_with fail
      refine (iNumeralValid_any A c zs _ hA hl).mono ?_
      rintro e w1 ⟨rfl, hb1⟩
      rw [HV.out]
      go_wp2_with (go_at_call 44; refine (isFac_no _ _ HD.out).mono ?_; rintro e w' ⟨rfl, rfl⟩)
      go_ret2
      rw [stL_no HO.out, HO.out]
      exact ⟨_, _, rfl, sr_nil _ _, hb1⟩

end Go.Proofs.Ytomojiipgabhfaa
