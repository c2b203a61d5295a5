/- The walks of TallyNew, TallyFraud, and of the draw of a new tally. -/
import Derived.Test.YtahlflennmdckaaTalN
namespace Go.Proofs.Ytahlflennmdckaa
open Go.RowKit Go.PlainAid
set_option linter.unusedVariables false
set_option linter.unusedSimpArgs false

theorem iTallyNew (d c n : Int) (w : World) :
    Calls Try.prog 25 #[.int .i64 d, .int .i64 c, .int .i64 n] w (TalPost d c n w) := by
  have ht := fun w => tally_any d c n w
  unfold TalPost at *
  generalize tnT d c n = t at *
  generalize tnB d c n = b at *
  go_enter Try.func25, Try.ntmps25
  go_wp2_with (go_at_call 62; refine (ht _).mono ?_; rintro e w1 ⟨rfl, hb1⟩; obtain ⟨hc, hf⟩ := bcell hb1; have hz : w.heap.size < w1.heap.size := (by have := hb1.size; simp at this; omega))
  exact bodyPost_ret (v := .tuple #[.agg #[.int .i64 t.d, .int .i64 t.c, .string t.s, .string t.f], .bool b]) (by simp [results, Try.results25, go_sem, hc, hf, hz]) rfl ⟨rfl, fin4 (by omega) (below_box _ _ hb1) _ _ _ _⟩

set_option maxHeartbeats 1000000 in
theorem sTallyNew (d c n : Int) (w : World) :
    Calls Try.prog 26 #[.int .i64 d, .int .i64 c, .int .i64 n] w (TalPost d c n w) := by
  have hd := fun w => l6yTwo_any d c w
  have hof := fun w => sNotchesOf n w
  unfold TalPost
  cases h9 : noB n with
  | false =>
    have hn : tnB d c n = false := by unfold tnB; unfold noB at h9; simp at h9 ⊢; omega
    rw [tn_no hn, hn]
    rw [h9] at hof
    generalize noR n = s at *
    clear hn h9
    go_enter Try.func26, Try.ntmps26
    go_wp2_with (go_at_call 51; refine (hof _).mono ?_; rintro e w1 ⟨rfl, rfl⟩)
    exact bodyPost_ret (v := .tuple #[.agg #[.int .i64 0, .int .i64 0, .string ⟨#[]⟩, .string ⟨#[]⟩], .bool false]) (by simp [results, Try.results26, go_sem]) rfl ⟨rfl, (Below.refl _ _).alloc (Nat.le_refl _) _⟩
  | true =>
    rw [h9] at hof
    unfold noB at h9
    simp at h9
    cases ht : twoB d c with
    | false =>
      have hn : tnB d c n = false := by unfold tnB; rw [ht]; rfl
      rw [tn_no hn, hn]
      rw [ht] at hd
      generalize noR n = s at *
      clear hn ht
      go_enter Try.func26, Try.ntmps26
      go_wp2_with (first | (go_at_call 51; refine (hof _).mono ?_; rintro e w1 ⟨rfl, rfl⟩) | (go_at_call 63; refine (hd _).mono ?_; rintro e w1 ⟨rfl, rfl⟩))
      exact bodyPost_ret (v := .tuple #[.agg #[.int .i64 0, .int .i64 0, .string ⟨#[]⟩, .string ⟨#[]⟩], .bool false]) (by simp [results, Try.results26, go_sem]) rfl ⟨rfl, (Below.refl _ _).alloc (Nat.le_refl _) _⟩
    | true =>
      rw [ht] at hd
      by_cases h0 : n = 0
      · have hn : tnB d c n = false := by unfold tnB; simp; omega
        rw [tn_no hn, hn]
        generalize noR n = s at *
        subst h0
        clear hn ht h9
        go_enter Try.func26, Try.ntmps26
        go_wp2_with (first | (go_at_call 51; refine (hof _).mono ?_; rintro e w1 ⟨rfl, rfl⟩) | (go_at_call 63; refine (hd _).mono ?_; rintro e w1 ⟨rfl, rfl⟩))
        exact bodyPost_ret (v := .tuple #[.agg #[.int .i64 0, .int .i64 0, .string ⟨#[]⟩, .string ⟨#[]⟩], .bool false]) (by simp [results, Try.results26, go_sem]) rfl ⟨rfl, (Below.refl _ _).alloc (Nat.le_refl _) _⟩
      · have hn : tnB d c n = true := by unfold tnB; rw [ht]; simp; omega
        rw [tn_yes hn, hn]
        rw [(no_mkT (n := n) (by omega) (by omega)).2] at hof
        unfold mkT
        simp only
        generalize ntx n.toNat = s at *
        have h0' : (n == 0) = false := beq_eq_false_iff_ne.2 h0
        clear hn ht h9 h0
        go_enter Try.func26, Try.ntmps26
        go_wp2_with (first | (go_at_call 51; refine (hof _).mono ?_; rintro e w1 ⟨rfl, rfl⟩) | (go_at_call 63; refine (hd _).mono ?_; rintro e w1 ⟨rfl, rfl⟩))
        exact bodyPost_ret (v := .tuple #[.agg #[.int .i64 d, .int .i64 c, .string s, .string s], .bool true]) (by simp [results, Try.results26, go_sem]) rfl ⟨rfl, (Below.refl _ _).alloc (Nat.le_refl _) _⟩

theorem below_boxD (w : World) (o : Obj) {w2 : World} (h : Below (w.alloc o).drew.heap.size (w.alloc o).drew w2) : Below w.heap.size w w2 := below_then2 ((Below.refl _ _).alloc (Nat.le_refl _) o).drew h

/-- Who has cut. -/
def frI (x y : Int) : Int := if y < x then 1 else if x < y then 2 else 0
theorem fr_gt {x y : Int} (h : y < x) : frI x y = 1 := by unfold frI; rw [if_pos h]
theorem fr_lt {x y : Int} (h : x < y) : frI x y = 2 := by unfold frI; rw [if_neg (by omega), if_pos h]
theorem fr_eq (x : Int) : frI x x = 0 := by unfold frI; rw [if_neg (by omega), if_neg (by omega)]

set_option maxHeartbeats 1000000 in
theorem iTallyFraud (d c : Int) (s f : ByteArray) (w : World) (hd : twoB d c = true) (x y : Int) (x0 : 0 ≤ x) (y0 : 0 ≤ y)
    (hx : ∀ w, Calls Try.prog 19 #[.string s] w fun e w' => e = .returned (.int .i64 x) ∧ Below w.heap.size w w') (hy : ∀ w, Calls Try.prog 19 #[.string f] w fun e w' => e = .returned (.int .i64 y) ∧ Below w.heap.size w w') :
    Calls Try.prog 28 #[.agg #[.int .i64 d, .int .i64 c, .string s, .string f]] w fun e w' => e = .returned (.int .i64 (frI x y)) ∧ Below w.heap.size w w' := by
  have hdd := fun w => different_any d c w
  rw [hd] at hdd
  clear hd
  obtain ⟨r, hr⟩ : ∃ r, frI x y = r := ⟨_, rfl⟩
  rw [hr]
  have HR := Lib.hid hr
  clear hr
  have hcase : x < y ∨ x = y ∨ y < x := by omega
  rcases hcase with hxy | hxy | hxy
  · have hxy' : ¬ y < x := by omega
    go_enter Try.func28, Try.ntmps28
    go_wp2_with fail
    go_region_held3 (fun w' => w'.cell? ⟨w.heap.size, 2, none⟩ = some (.string s) ∧ w'.cell? ⟨w.heap.size, 3, none⟩ = some (.string f)) (first | go_keep | (go_split_ands; refine ⟨?_, ?_⟩ <;> (rw [(bcell hb2).1 _ _ (by omega)]; assumption)) | (go_split_ands; refine ⟨?_, ?_⟩ <;> (rw [(bcell hb1).1 _ _ (by simp)]; assumption))) (first | (go_at_call 19; (with_reducible refine (hx _).mono ?_); rintro e w1 ⟨rfl, hb1⟩; have hz : w.heap.size < w1.heap.size := (by have := hb1.size; simp at this; omega)) | (go_at_call 19; (with_reducible refine (hy _).mono ?_); rintro e w2 ⟨rfl, hb2⟩))
    obtain ⟨hc1, hf1⟩ := bcell hb1
    obtain ⟨hc2, hf2⟩ := bcell hb2
    go_wp2_with (go_at_call 64; refine (hdd _).mono ?_; rintro e w3 ⟨rfl, hb3⟩)
    go_ret
    exact ⟨ret_int (by rw [← HR.out, fr_lt hxy]), below_then2 (below_then2 (below_boxD _ _ hb1) hb2) hb3⟩
  · have h1 : ¬ y < x := by omega
    have h2 : ¬ x < y := by omega
    have HX := Lib.hid hxy
    clear hxy
    go_enter Try.func28, Try.ntmps28
    go_wp2_with fail
    go_region_held3 (fun w' => w'.cell? ⟨w.heap.size, 2, none⟩ = some (.string s) ∧ w'.cell? ⟨w.heap.size, 3, none⟩ = some (.string f)) (first | go_keep | (go_split_ands; refine ⟨?_, ?_⟩ <;> (rw [(bcell hb2).1 _ _ (by omega)]; assumption)) | (go_split_ands; refine ⟨?_, ?_⟩ <;> (rw [(bcell hb1).1 _ _ (by simp)]; assumption))) (first | (go_at_call 19; (with_reducible refine (hx _).mono ?_); rintro e w1 ⟨rfl, hb1⟩; have hz : w.heap.size < w1.heap.size := (by have := hb1.size; simp at this; omega)) | (go_at_call 19; (with_reducible refine (hy _).mono ?_); rintro e w2 ⟨rfl, hb2⟩))
    obtain ⟨hc1, hf1⟩ := bcell hb1
    obtain ⟨hc2, hf2⟩ := bcell hb2
    go_wp2_with (go_at_call 64; refine (hdd _).mono ?_; rintro e w3 ⟨rfl, hb3⟩)
    go_ret
    exact ⟨ret_int (by rw [← HR.out, HX.out, fr_eq]), below_then2 (below_then2 (below_boxD _ _ hb1) hb2) hb3⟩
  · go_enter Try.func28, Try.ntmps28
    go_wp2_with fail
    go_region_held3 (fun w' => w'.cell? ⟨w.heap.size, 2, none⟩ = some (.string s) ∧ w'.cell? ⟨w.heap.size, 3, none⟩ = some (.string f)) (first | go_keep | (go_split_ands; refine ⟨?_, ?_⟩ <;> (rw [(bcell hb2).1 _ _ (by omega)]; assumption)) | (go_split_ands; refine ⟨?_, ?_⟩ <;> (rw [(bcell hb1).1 _ _ (by simp)]; assumption))) (first | (go_at_call 19; (with_reducible refine (hx _).mono ?_); rintro e w1 ⟨rfl, hb1⟩; have hz : w.heap.size < w1.heap.size := (by have := hb1.size; simp at this; omega)) | (go_at_call 19; (with_reducible refine (hy _).mono ?_); rintro e w2 ⟨rfl, hb2⟩))
    obtain ⟨hc1, hf1⟩ := bcell hb1
    obtain ⟨hc2, hf2⟩ := bcell hb2
    go_wp2_with (go_at_call 64; refine (hdd _).mono ?_; rintro e w3 ⟨rfl, hb3⟩)
    go_ret
    exact ⟨ret_int (by rw [← HR.out, fr_gt hxy]), below_then2 (below_then2 (below_boxD _ _ hb1) hb2) hb3⟩

end Go.Proofs.Ytahlflennmdckaa
