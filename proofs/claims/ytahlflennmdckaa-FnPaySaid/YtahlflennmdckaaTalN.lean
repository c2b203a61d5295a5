/- The walks of tally and of TallyNew, impl and reference. -/
import Derived.Test.YtahlflennmdckaaTalA
namespace Go.Proofs.Ytahlflennmdckaa
open Go.RowKit Go.PlainAid
set_option linter.unusedVariables false
set_option linter.unusedSimpArgs false

/-- A new tally: is there one, and what it is. -/
def tnB (d c n : Int) : Bool := twoB d c && decide (1 ≤ n ∧ n ≤ 9999)
def tnT (d c n : Int) : Tal := if tnB d c n = true then mkT d c n else tal0
theorem tn_no {d c n : Int} (h : tnB d c n = false) : tnT d c n = tal0 := by unfold tnT; rw [h]; rfl
theorem tn_yes {d c n : Int} (h : tnB d c n = true) : tnT d c n = mkT d c n := by unfold tnT; rw [h]; rfl
theorem no_mkT {n : Int} (h1 : 1 ≤ n) (h2 : n ≤ 9999) : noB n = true ∧ noR n = ntx n.toNat := by
  have hn : noB n = true := by unfold noB; simp; omega
  exact ⟨hn, noR_yes hn⟩
theorem no_big {n : Int} (h2 : 9999 < n) : noB n = false := by unfold noB; simp; omega
def TalPost (d c n : Int) (w : World) (e : Ending) (w' : World) : Prop := e = .returned (.tuple #[.agg #[.int .i64 (tnT d c n).d, .int .i64 (tnT d c n).c, .string (tnT d c n).s, .string (tnT d c n).f], .bool (tnB d c n)]) ∧ Below w.heap.size w w'

theorem fin4 {w w2 : World} {g : Nat} (hg : w.heap.size ≤ g) (h : Below w.heap.size w w2) (a b c d : Value) :
    Below w.heap.size w ((((w2.setCell ⟨g, 0, none⟩ a).setCell ⟨g, 1, none⟩ b).setCell ⟨g, 2, none⟩ c).setCell ⟨g, 3, none⟩ d) :=
  (((h.setCell hg _).setCell hg _).setCell hg _).setCell hg _

set_option maxHeartbeats 1000000 in
theorem tally_any (d c n : Int) (w : World) :
    Calls Try.prog 62 #[.agg #[.int .i64 d, .int .i64 c, .int .i64 n]] w (TalPost d c n w) := by
  have hd := fun w => different_any d c w
  cases ht : twoB d c with
  | false =>
    have hn : tnB d c n = false := by unfold tnB; rw [ht]; rfl
    unfold TalPost
    rw [tn_no hn, hn]
    rw [ht] at hd
    clear ht hn
    go_enter Try.func62, Try.ntmps62
    go_wp2_with (go_at_call 64; refine (hd _).mono ?_; rintro e w1 ⟨rfl, hb1⟩; obtain ⟨hc, hf⟩ := bcell hb1; have hz : w.heap.size + 1 < w1.heap.size := (by have := hb1.size; simp at this; omega); have hz0 : w.heap.size < w1.heap.size := (by omega))
    exact bodyPost_ret (v := .tuple #[.agg #[.int .i64 0, .int .i64 0, .string ⟨#[]⟩, .string ⟨#[]⟩], .bool false]) (by simp [results, Try.results62, go_sem, hc, hf, hz]) rfl ⟨rfl, fin4 (by omega) (below_then2 (below_box _ _ ((Below.refl _ _).alloc (Nat.le_refl _) _)) hb1) _ _ _ _⟩
  | true =>
    rw [ht] at hd
    by_cases h1 : 1 ≤ n
    · by_cases h9 : n ≤ 9999
      · have hn : tnB d c n = true := by unfold tnB; rw [ht]; simp; omega
        have hno := no_mkT h1 h9
        have hof := fun w => iNotchesOf n w
        unfold TalPost
        rw [tn_yes hn, hn]
        rw [hno.1, hno.2] at hof
        unfold mkT
        simp only
        generalize ntx n.toNat = s at *
        clear ht hn hno
        go_enter Try.func62, Try.ntmps62
        go_wp2_with (first | (go_at_call 64; refine (hd _).mono ?_; rintro e w1 ⟨rfl, hb1⟩; obtain ⟨hc, hf⟩ := bcell hb1; have hz : w.heap.size + 1 < w1.heap.size := (by have := hb1.size; simp at this; omega); have hz0 : w.heap.size < w1.heap.size := (by omega)) | (go_at_call 21; refine (hof _).mono ?_; rintro e w2 ⟨rfl, hb2⟩; obtain ⟨hc2, hf2⟩ := bcell hb2; have hz2 : w1.heap.size ≤ w2.heap.size := hb2.size))
        exact bodyPost_ret (v := .tuple #[.agg #[.int .i64 d, .int .i64 c, .string s, .string s], .bool true]) (by simp [results, Try.results62, go_sem, hc, hf, hz, hc2, hf2]) rfl ⟨rfl, fin4 (by omega) (below_then2 (below_then2 (below_box _ _ ((Below.refl _ _).alloc (Nat.le_refl _) _)) hb1) hb2) _ _ _ _⟩
      · have hn : tnB d c n = false := by unfold tnB; simp; omega
        have hno := no_big (n := n) (by omega)
        have hof := fun w => iNotchesOf n w
        rw [hno] at hof
        unfold TalPost
        rw [tn_no hn, hn]
        generalize noR n = s at *
        clear ht hn hno
        go_enter Try.func62, Try.ntmps62
        go_wp2_with (first | (go_at_call 64; refine (hd _).mono ?_; rintro e w1 ⟨rfl, hb1⟩; obtain ⟨hc, hf⟩ := bcell hb1; have hz : w.heap.size + 1 < w1.heap.size := (by have := hb1.size; simp at this; omega); have hz0 : w.heap.size < w1.heap.size := (by omega)) | (go_at_call 21; refine (hof _).mono ?_; rintro e w2 ⟨rfl, hb2⟩; obtain ⟨hc2, hf2⟩ := bcell hb2; have hz2 : w1.heap.size ≤ w2.heap.size := hb2.size))
        exact bodyPost_ret (v := .tuple #[.agg #[.int .i64 0, .int .i64 0, .string ⟨#[]⟩, .string ⟨#[]⟩], .bool false]) (by simp [results, Try.results62, go_sem, hc, hf, hz, hc2, hf2]) rfl ⟨rfl, fin4 (by omega) (below_then2 (below_then2 (below_box _ _ ((Below.refl _ _).alloc (Nat.le_refl _) _)) hb1) hb2) _ _ _ _⟩
    · have hn : tnB d c n = false := by unfold tnB; simp; omega
      unfold TalPost
      rw [tn_no hn, hn]
      clear ht hn
      go_enter Try.func62, Try.ntmps62
      go_wp2_with (go_at_call 64; refine (hd _).mono ?_; rintro e w1 ⟨rfl, hb1⟩; obtain ⟨hc, hf⟩ := bcell hb1; have hz : w.heap.size + 1 < w1.heap.size := (by have := hb1.size; simp at this; omega); have hz0 : w.heap.size < w1.heap.size := (by omega))
      exact bodyPost_ret (v := .tuple #[.agg #[.int .i64 0, .int .i64 0, .string ⟨#[]⟩, .string ⟨#[]⟩], .bool false]) (by simp [results, Try.results62, go_sem, hc, hf, hz]) rfl ⟨rfl, fin4 (by omega) (below_then2 (below_box _ _ ((Below.refl _ _).alloc (Nat.le_refl _) _)) hb1) _ _ _ _⟩

end Go.Proofs.Ytahlflennmdckaa
