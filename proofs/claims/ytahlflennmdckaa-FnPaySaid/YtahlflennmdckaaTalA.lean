/- The walks of the tallies' small functions: different, l6yTwo, tally, TallyNew, TallyMatches. -/
import Derived.Test.YtahlflennmdckaaTalM
import Derived.Deep.RegionHeld3
namespace Go.Proofs.Ytahlflennmdckaa
open Go.RowKit Go.PlainAid
set_option linter.unusedVariables false
set_option linter.unusedSimpArgs false

theorem bcell {W w1 : World} (hb : Below W.heap.size W w1) : (∀ b o, b < W.heap.size → w1.cell? ⟨b, o, none⟩ = W.cell? ⟨b, o, none⟩) ∧ (∀ b o, b < W.heap.size → w1.frozen? ⟨b, o, none⟩ = W.frozen? ⟨b, o, none⟩) :=
  ⟨fun b o h => hb.cell (p := ⟨b, o, none⟩) h, fun b o h => hb.frozen (p := ⟨b, o, none⟩) h⟩
/-- One world later. -/
theorem below_then2 {w w1 w2 : World} (h1 : Below w.heap.size w w1) (h2 : Below w1.heap.size w1 w2) : Below w.heap.size w w2 := h1.trans (h2.mono h1.size)
theorem below_box (w : World) (o : Obj) {w2 : World} (h : Below (w.alloc o).heap.size (w.alloc o) w2) : Below w.heap.size w w2 := below_then2 ((Below.refl _ _).alloc (Nat.le_refl _) o) h

theorem str_eq (a b : ByteArray) : (a.toList == b.toList) = decide (a = b) := by
  rw [ByteArray.toList_eq, ByteArray.toList_eq, Bool.eq_iff_iff]
  simp only [beq_iff_eq, decide_eq_true_eq]
  exact ⟨fun h => ByteArray.ext (Array.ext' h), fun h => by rw [h]⟩

theorem different_any (a b : Int) (w : World) :
    Calls Try.prog 64 #[.agg #[.int .i64 a, .int .i64 b]] w fun e w' => e = .returned (.bool (twoB a b)) ∧ Below w.heap.size w w' := by
  cases h : twoB a b with
  | true =>
    obtain ⟨h1, h2, h3, h4, h5⟩ := two_yes h
    have hne : (a != b) = true := by simpa using h5
    clear h h5
    go_enter Try.func64, Try.ntmps64
    go_wp2
    go_ret
    exact ⟨rfl, (Below.refl _ _).alloc (Nat.le_refl _) _⟩
  | false =>
    have h' := two_no h
    clear h
    rcases h' with h1 | ⟨h1, h2⟩ | ⟨h1, h2, h3⟩ | ⟨h1, h2, h3, h4⟩ | ⟨h1, h2, rfl⟩
    all_goals
      go_enter Try.func64, Try.ntmps64
      go_wp2
      go_ret
      exact ⟨rfl, (Below.refl _ _).alloc (Nat.le_refl _) _⟩
theorem l6yTwo_any (a b : Int) (w : World) :
    Calls Try.prog 63 #[.int .i64 a, .int .i64 b] w fun e w' => e = .returned (.bool (twoB a b)) ∧ w = w' := by
  cases h : twoB a b with
  | true =>
    obtain ⟨h1, h2, h3, h4, h5⟩ := two_yes h
    have hne : (a != b) = true := by simpa using h5
    clear h h5
    go_enter Try.func63, Try.ntmps63
    go_wp2_with (go_at_call 77; refine (l6In_yes _ _ _ _ (by omega) (by omega)).mono ?_; rintro e w' ⟨rfl, rfl⟩)
    go_ret
    exact ⟨rfl, rfl⟩
  | false =>
    have h' := two_no h
    clear h
    rcases h' with h1 | ⟨h1, h2⟩ | ⟨h1, h2, h3⟩ | ⟨h1, h2, h3, h4⟩ | ⟨h1, h2, rfl⟩
    · go_enter Try.func63, Try.ntmps63
      go_wp2_with (go_at_call 77; refine (l6In_no _ _ _ _ (by omega)).mono ?_; rintro e w' ⟨rfl, rfl⟩)
      go_ret
      exact ⟨rfl, rfl⟩
    · go_enter Try.func63, Try.ntmps63
      go_wp2_with (go_at_call 77; refine (l6In_no _ _ _ _ (by omega)).mono ?_; rintro e w' ⟨rfl, rfl⟩)
      go_ret
      exact ⟨rfl, rfl⟩
    · go_enter Try.func63, Try.ntmps63
      go_wp2_with (first | (go_at_call 77; (with_reducible refine (l6In_yes a _ _ _ (by omega) (by omega)).mono ?_); rintro e w' ⟨rfl, rfl⟩) | (go_at_call 77; refine (l6In_no _ _ _ _ (by omega)).mono ?_; rintro e w' ⟨rfl, rfl⟩))
      go_ret
      exact ⟨rfl, rfl⟩
    · go_enter Try.func63, Try.ntmps63
      go_wp2_with (first | (go_at_call 77; (with_reducible refine (l6In_yes a _ _ _ (by omega) (by omega)).mono ?_); rintro e w' ⟨rfl, rfl⟩) | (go_at_call 77; refine (l6In_no _ _ _ _ (by omega)).mono ?_; rintro e w' ⟨rfl, rfl⟩))
      go_ret
      exact ⟨rfl, rfl⟩
    · go_enter Try.func63, Try.ntmps63
      go_wp2_with (go_at_call 77; refine (l6In_yes _ _ _ _ (by omega) (by omega)).mono ?_; rintro e w' ⟨rfl, rfl⟩)
      go_ret
      exact ⟨rfl, rfl⟩

theorem iTallyMatches (d c : Int) (s f : ByteArray) (w : World) (hs : s.size ≤ 4611686018427387) :
    Calls Try.prog 27 #[.agg #[.int .i64 d, .int .i64 c, .string s, .string f]] w fun e w' => e = .returned (.bool (tmB ⟨d, c, s, f⟩)) ∧ Below w.heap.size w w' := by
  have hd := fun w => different_any d c w
  have hn := fun w => iNotchesValid s w hs
  unfold tmB
  simp only
  clear hs
  cases h1 : twoB d c with
  | false =>
    rw [h1] at hd
    clear h1
    go_enter Try.func27, Try.ntmps27
    go_wp2_with (go_at_call 64; refine (hd _).mono ?_; rintro e w1 ⟨rfl, hb1⟩)
    go_ret
    exact ⟨rfl, below_box _ _ hb1⟩
  | true =>
    rw [h1] at hd
    clear h1
    cases h2 : nvB s with
    | false =>
      rw [h2] at hn
      clear h2
      go_enter Try.func27, Try.ntmps27
      go_wp2_with (first | (go_at_call 64; refine (hd _).mono ?_; rintro e w1 ⟨rfl, hb1⟩; obtain ⟨hc, hf⟩ := bcell hb1) | (go_at_call 65; refine (hn _).mono ?_; rintro e w2 ⟨rfl, hb2⟩))
      go_ret
      exact ⟨rfl, below_then2 (below_box _ _ hb1) hb2⟩
    | true =>
      rw [h2] at hn
      clear h2
      go_enter Try.func27, Try.ntmps27
      go_wp2_with (first | (go_at_call 64; refine (hd _).mono ?_; rintro e w1 ⟨rfl, hb1⟩; obtain ⟨hc, hf⟩ := bcell hb1; have hz : w.heap.size < w1.heap.size := (by have := hb1.size; simp at this; omega)) | (go_at_call 65; refine (hn _).mono ?_; rintro e w2 ⟨rfl, hb2⟩; obtain ⟨hc2, hf2⟩ := bcell hb2))
      go_ret
      exact ⟨ret_bool (by simp [str_eq]), below_then2 (below_box _ _ hb1) hb2⟩

theorem sTallyMatches (d c : Int) (s f : ByteArray) (w : World) (hs : s.size ≤ 4611686018427387) :
    Calls Try.prog 89 #[.agg #[.int .i64 d, .int .i64 c, .string s, .string f]] w fun e w' => e = .returned (.bool (tmB ⟨d, c, s, f⟩)) ∧ Below w.heap.size w w' := by
  have hd := fun w => l6yTwo_any d c w
  have hn := fun w => sNotchesValid s w hs
  unfold tmB
  simp only
  clear hs
  cases h1 : twoB d c with
  | false =>
    rw [h1] at hd
    clear h1
    go_enter Try.func89, Try.ntmps89
    go_wp2_with (go_at_call 63; refine (hd _).mono ?_; rintro e w1 ⟨rfl, rfl⟩)
    go_ret
    exact ⟨rfl, (Below.refl _ _).alloc (Nat.le_refl _) _⟩
  | true =>
    rw [h1] at hd
    clear h1
    cases h2 : nvB s with
    | false =>
      rw [h2] at hn
      clear h2
      go_enter Try.func89, Try.ntmps89
      go_wp2_with (first | (go_at_call 63; refine (hd _).mono ?_; rintro e w1 ⟨rfl, rfl⟩) | (go_at_call 50; refine (hn _).mono ?_; rintro e w2 ⟨rfl, n, rfl⟩))
      go_ret
      exact ⟨rfl, below_drewN ((Below.refl _ _).alloc (Nat.le_refl _) _) n⟩
    | true =>
      rw [h2] at hn
      clear h2
      go_enter Try.func89, Try.ntmps89
      go_wp2_with (first | (go_at_call 63; refine (hd _).mono ?_; rintro e w1 ⟨rfl, rfl⟩) | (go_at_call 50; refine (hn _).mono ?_; rintro e w2 ⟨rfl, n, rfl⟩))
      go_ret
      exact ⟨ret_bool (by simp [str_eq]), below_drewN ((Below.refl _ _).alloc (Nat.le_refl _) _) n⟩

end Go.Proofs.Ytahlflennmdckaa
