/- The law FnTallyNew. -/
import Derived.Test.YtahlflennmdckaaTalG
namespace Go.Proofs.Ytahlflennmdckaa
open Go.RowKit Go.PlainAid
set_option linter.unusedVariables false
set_option linter.unusedSimpArgs false

theorem tn_false {d c n : Int} (h : tnB d c n = false) (w : World) (e : Ending) (w' : World) : TalPost d c n w e w' ↔ e = .returned (.tuple #[.agg #[.int .i64 0, .int .i64 0, .string ⟨#[]⟩, .string ⟨#[]⟩], .bool false]) ∧ Below w.heap.size w w' := by
  unfold TalPost; rw [tn_no h, h]; exact Iff.rfl
theorem tn_true {d c n : Int} (h : tnB d c n = true) (w : World) (e : Ending) (w' : World) : TalPost d c n w e w' ↔ e = .returned (.tuple #[.agg #[.int .i64 d, .int .i64 c, .string (ntx n.toNat), .string (ntx n.toNat)], .bool true]) ∧ Below w.heap.size w w' := by
  unfold TalPost; rw [tn_yes h, h]; exact Iff.rfl
theorem tnB_yes {d c n : Int} (h : tnB d c n = true) : twoB d c = true ∧ 1 ≤ n ∧ n ≤ 9999 := by
  unfold tnB at h; simp at h; exact h
/-- a world later, all older cells as before. -/
theorem later {w w1 : World} (hb : Below w.heap.size w w1) : (∀ b o, b < w.heap.size → w1.cell? ⟨b, o, none⟩ = w.cell? ⟨b, o, none⟩) ∧ (∀ b o, b < w.heap.size → w1.frozen? ⟨b, o, none⟩ = w.frozen? ⟨b, o, none⟩) := bcell hb

set_option maxRecDepth 100000 in
set_option maxHeartbeats 8000000 in
theorem walkFnTallyNew (a : Option Addr) (len cap : Nat) (zs : List Int) (w : World) (hs : Sl .u8 w a len cap zs) :
    Calls Try.prog 8 #[.slice a len cap] w fun e w' => e = .returned (.bool true) ∧ Below w.heap.size w w' := by
  have HS := Lib.hid hs
  obtain ⟨-, hlc, hcm, -, -⟩ := hs
  unfold maxLen at hcm
  by_cases hbig : len ≤ 1048576
  case neg =>
    have hbig' : decide (1048576 < len) = true := by simp; omega
    go_enter Try.func8, Try.ntmps8
    go_wp2_with fail
    go_ret
    exact ⟨rfl, Below.refl _ _⟩
  go_enter Try.func8, Try.ntmps8
  go_wp2_with fail
  refine (drawTallyNew a len cap zs _ HS.out).mono ?_
  rintro e w1 ⟨d, c, n, rfl, hb1⟩
  clear hlc hcm hbig
  have c1 := fun w => iTallyNew d c n w
  have c2 := fun w => sTallyNew d c n w
  cases hv : tnB d c n with
  | false =>
    have d1 : ∀ w, Calls Try.prog 25 #[.int .i64 d, .int .i64 c, .int .i64 n] w fun e w' => e = .returned (.tuple #[.agg #[.int .i64 0, .int .i64 0, .string ⟨#[]⟩, .string ⟨#[]⟩], .bool false]) ∧ Below w.heap.size w w' := fun w => (c1 w).mono fun e w' h => (tn_false hv w e w').1 h
    have d2 : ∀ w, Calls Try.prog 26 #[.int .i64 d, .int .i64 c, .int .i64 n] w fun e w' => e = .returned (.tuple #[.agg #[.int .i64 0, .int .i64 0, .string ⟨#[]⟩, .string ⟨#[]⟩], .bool false]) ∧ Below w.heap.size w w' := fun w => (c2 w).mono fun e w' h => (tn_false hv w e w').1 h
    clear c1 c2 hv
    go_wp2_with (first | (go_at_call 25; (with_reducible refine (d1 _).mono ?_); rintro e w2 ⟨rfl, hb2⟩) | (go_at_call 26; (with_reducible refine (d2 _).mono ?_); rintro e w3 ⟨rfl, hb3⟩; obtain ⟨hc3, hf3⟩ := later hb3; have zA3 : w2.heap.size < w3.heap.size := (by have := hb3.size; (try simp at this); omega)))
    go_ret
    exact ⟨rfl, below_then2 (below_then2 (hb1.trans (hb2.mono hb1.size)) (below_box _ _ hb3)) ((Below.refl _ _).alloc (Nat.le_refl _) _)⟩
  | true =>
    have d1 : ∀ w, Calls Try.prog 25 #[.int .i64 d, .int .i64 c, .int .i64 n] w fun e w' => e = .returned (.tuple #[.agg #[.int .i64 d, .int .i64 c, .string (ntx n.toNat), .string (ntx n.toNat)], .bool true]) ∧ Below w.heap.size w w' := fun w => (c1 w).mono fun e w' h => (tn_true hv w e w').1 h
    have d2 : ∀ w, Calls Try.prog 26 #[.int .i64 d, .int .i64 c, .int .i64 n] w fun e w' => e = .returned (.tuple #[.agg #[.int .i64 d, .int .i64 c, .string (ntx n.toNat), .string (ntx n.toNat)], .bool true]) ∧ Below w.heap.size w w' := fun w => (c2 w).mono fun e w' h => (tn_true hv w e w').1 h
    clear c1 c2
    obtain ⟨ht, n1, n9⟩ := tnB_yes hv
    clear hv
    obtain ⟨hwo, hnv⟩ := wo_ntx (n := n.toNat) (by omega)
    have hsz : (ntx n.toNat).size ≤ 36 := by have := noR_size n; rwa [(no_mkT n1 n9).2] at this
    have hn : ((n.toNat : Nat) : Int) = n := by omega
    rw [hn] at hwo
    generalize ntx n.toNat = s at *
    clear hn
    have k1 := iv_wo s (by omega) hwo
    have ma := fun w => iTallyMatches d c s s w (by omega)
    have e1 : tmB ⟨d, c, s, s⟩ = true := by unfold tmB; rw [ht, hnv]; simp
    rw [e1] at ma
    have fa := fun w => iTallyFraud d c s s w ht n n (by omega) (by omega) k1 k1
    rw [fr_eq] at fa
    have cc := fun w => iNotchesCut s ⟨#[73]⟩ w (by omega) (by simp [ByteArray.size])
    cases hp : cuB s ⟨#[73]⟩ with
    | false =>
      rw [hp] at cc
      generalize cuR s ⟨#[73]⟩ = r at *
      clear hp e1 hwo hnv ht
      go_wp2_with (first | (go_at_call 25; (with_reducible refine (d1 _).mono ?_); rintro e w2 ⟨rfl, hb2⟩) | (go_at_call 26; (with_reducible refine (d2 _).mono ?_); rintro e w3 ⟨rfl, hb3⟩; obtain ⟨hc3, hf3⟩ := later hb3; have zA3 : w2.heap.size < w3.heap.size := (by have := hb3.size; (try simp at this); omega)) | (go_at_call 17; (with_reducible refine (cc _).mono ?_); rintro e w4 ⟨rfl, hb4⟩; obtain ⟨hc4, hf4⟩ := later hb4; have zA4 : w2.heap.size < w4.heap.size := (by have := hb4.size; (try simp at this); omega); have nA1 : ¬ w4.heap.size = w2.heap.size := (by omega); have nA2 : ¬ w2.heap.size = w4.heap.size := (by omega); have nA3 : ¬ w4.heap.size + 1 = w2.heap.size := (by omega); have nA4 : ¬ w2.heap.size = w4.heap.size + 1 := (by omega); have zB4 : w3.heap.size < w4.heap.size := (by have := hb4.size; (try simp at this); omega)) | (go_at_call 27; (with_reducible refine (ma _).mono ?_); rintro e w5 ⟨rfl, hb5⟩; obtain ⟨hc5, hf5⟩ := later hb5; have qA5 := fun o => hc5 w2.heap.size o (by first | omega | (simp; omega) | simp); have qC5 := fun o => hc5 w4.heap.size o (by first | omega | (simp; omega) | simp); have qD5 := fun o => hc5 (w4.heap.size + 1) o (by first | omega | (simp; omega) | simp); have zA5 : w2.heap.size < w5.heap.size := (by have := hb5.size; (try simp at this); omega); have zC5 : w4.heap.size < w5.heap.size := (by have := hb5.size; (try simp at this); omega); have zD5 : w4.heap.size + 1 < w5.heap.size := (by have := hb5.size; (try simp at this); omega)) | (go_at_call 28; (with_reducible refine (fa _).mono ?_); rintro e w6 ⟨rfl, hb6⟩; obtain ⟨hc6, hf6⟩ := later hb6; have qA6 := fun o => hc6 w2.heap.size o (by first | omega | (simp; omega) | simp); have qC6 := fun o => hc6 w4.heap.size o (by first | omega | (simp; omega) | simp); have qD6 := fun o => hc6 (w4.heap.size + 1) o (by first | omega | (simp; omega) | simp); have zA6 : w2.heap.size < w6.heap.size := (by have := hb6.size; (try simp at this); omega); have zC6 : w4.heap.size < w6.heap.size := (by have := hb6.size; (try simp at this); omega); have zD6 : w4.heap.size + 1 < w6.heap.size := (by have := hb6.size; (try simp at this); omega)) | (go_at_call 19; (with_reducible refine (k1 _).mono ?_); rintro e w7 ⟨rfl, hb7⟩; obtain ⟨hc7, hf7⟩ := later hb7; have qA7 := fun o => hc7 w2.heap.size o (by first | omega | (simp; omega) | simp); have qC7 := fun o => hc7 w4.heap.size o (by first | omega | (simp; omega) | simp); have qD7 := fun o => hc7 (w4.heap.size + 1) o (by first | omega | (simp; omega) | simp); have zA7 : w2.heap.size < w7.heap.size := (by have := hb7.size; (try simp at this); omega); have zC7 : w4.heap.size < w7.heap.size := (by have := hb7.size; (try simp at this); omega); have zD7 : w4.heap.size + 1 < w7.heap.size := (by have := hb7.size; (try simp at this); omega)))
      go_ret
      have b3 := below_then2 (hb1.trans (hb2.mono hb1.size)) (below_box _ _ hb3)
      have b4 := below_then2 b3 (below_box _ _ hb4)
      have b5 := below_then2 b4 (below_box _ _ (below_box _ _ hb5))
      have b7 := below_then2 (below_then2 b5 hb6) hb7
      exact ⟨rfl, b7⟩
    | true =>
      obtain ⟨-, -, hsr, hvr, i, hi, hwr⟩ := cu_law hp
      rw [hp] at cc
      rw [hwo] at hwr
      generalize cuR s ⟨#[73]⟩ = r at *
      have hpos : 1 ≤ p10 (3 - (i : Nat)) ∧ p10 (3 - (i : Nat)) ≤ 1000 := by unfold p10; split <;> (try split) <;> (try split) <;> omega
      obtain ⟨y, hy⟩ : ∃ y, n + p10 (3 - (i : Nat)) = y := ⟨_, rfl⟩
      rw [hy] at hwr
      have hxy : n < y := by omega
      have k2 := iv_wo r (by omega) hwr
      have hrs : r ≠ s := fun e => by rw [e, hwo] at hwr; omega
      have mb := fun w => iTallyMatches d c r s w (by omega)
      have e2 : tmB ⟨d, c, r, s⟩ = false := by unfold tmB; simp [hrs]
      rw [e2] at mb
      have fb := fun w => iTallyFraud d c r s w ht y n (by omega) (by omega) k2 k1
      rw [fr_gt hxy] at fb
      have fc := fun w => iTallyFraud d c s r w ht n y (by omega) (by omega) k1 k2
      rw [fr_lt hxy] at fc
      clear hp e1 hwo hnv ht e2 hrs hwr hy hpos hvr hsr k2
      go_wp2_with (first | (go_at_call 25; (with_reducible refine (d1 _).mono ?_); rintro e w2 ⟨rfl, hb2⟩) | (go_at_call 26; (with_reducible refine (d2 _).mono ?_); rintro e w3 ⟨rfl, hb3⟩; obtain ⟨hc3, hf3⟩ := later hb3; have zA3 : w2.heap.size < w3.heap.size := (by have := hb3.size; (try simp at this); omega)) | (go_at_call 17; (with_reducible refine (cc _).mono ?_); rintro e w4 ⟨rfl, hb4⟩; obtain ⟨hc4, hf4⟩ := later hb4; have zA4 : w2.heap.size < w4.heap.size := (by have := hb4.size; (try simp at this); omega); have nA1 : ¬ w4.heap.size = w2.heap.size := (by omega); have nA2 : ¬ w2.heap.size = w4.heap.size := (by omega); have nA3 : ¬ w4.heap.size + 1 = w2.heap.size := (by omega); have nA4 : ¬ w2.heap.size = w4.heap.size + 1 := (by omega); have zB4 : w3.heap.size < w4.heap.size := (by have := hb4.size; (try simp at this); omega)) | (go_at_call 27; (with_reducible refine (ma _).mono ?_); rintro e w5 ⟨rfl, hb5⟩; obtain ⟨hc5, hf5⟩ := later hb5; have qA5 := fun o => hc5 w2.heap.size o (by first | omega | (simp; omega) | simp); have qC5 := fun o => hc5 w4.heap.size o (by first | omega | (simp; omega) | simp); have qD5 := fun o => hc5 (w4.heap.size + 1) o (by first | omega | (simp; omega) | simp); have zA5 : w2.heap.size < w5.heap.size := (by have := hb5.size; (try simp at this); omega); have zC5 : w4.heap.size < w5.heap.size := (by have := hb5.size; (try simp at this); omega); have zD5 : w4.heap.size + 1 < w5.heap.size := (by have := hb5.size; (try simp at this); omega)) | (go_at_call 28; (with_reducible refine (fa _).mono ?_); rintro e w6 ⟨rfl, hb6⟩; obtain ⟨hc6, hf6⟩ := later hb6; have qA6 := fun o => hc6 w2.heap.size o (by first | omega | (simp; omega) | simp); have qC6 := fun o => hc6 w4.heap.size o (by first | omega | (simp; omega) | simp); have qD6 := fun o => hc6 (w4.heap.size + 1) o (by first | omega | (simp; omega) | simp); have zA6 : w2.heap.size < w6.heap.size := (by have := hb6.size; (try simp at this); omega); have zC6 : w4.heap.size < w6.heap.size := (by have := hb6.size; (try simp at this); omega); have zD6 : w4.heap.size + 1 < w6.heap.size := (by have := hb6.size; (try simp at this); omega)) | (go_at_call 19; (with_reducible refine (k1 _).mono ?_); rintro e w7 ⟨rfl, hb7⟩; obtain ⟨hc7, hf7⟩ := later hb7; have qA7 := fun o => hc7 w2.heap.size o (by first | omega | (simp; omega) | simp); have qC7 := fun o => hc7 w4.heap.size o (by first | omega | (simp; omega) | simp); have qD7 := fun o => hc7 (w4.heap.size + 1) o (by first | omega | (simp; omega) | simp); have zA7 : w2.heap.size < w7.heap.size := (by have := hb7.size; (try simp at this); omega); have zC7 : w4.heap.size < w7.heap.size := (by have := hb7.size; (try simp at this); omega); have zD7 : w4.heap.size + 1 < w7.heap.size := (by have := hb7.size; (try simp at this); omega)) | (go_at_call 28; (with_reducible refine (fb _).mono ?_); rintro e w8 ⟨rfl, hb8⟩; obtain ⟨hc8, hf8⟩ := later hb8; have qA8 := fun o => hc8 w2.heap.size o (by first | omega | (simp; omega) | simp); have qC8 := fun o => hc8 w4.heap.size o (by first | omega | (simp; omega) | simp); have qD8 := fun o => hc8 (w4.heap.size + 1) o (by first | omega | (simp; omega) | simp); have zA8 : w2.heap.size < w8.heap.size := (by have := hb8.size; (try simp at this); omega); have zC8 : w4.heap.size < w8.heap.size := (by have := hb8.size; (try simp at this); omega); have zD8 : w4.heap.size + 1 < w8.heap.size := (by have := hb8.size; (try simp at this); omega)) | (go_at_call 28; (with_reducible refine (fc _).mono ?_); rintro e w9 ⟨rfl, hb9⟩; obtain ⟨hc9, hf9⟩ := later hb9; have qA9 := fun o => hc9 w2.heap.size o (by first | omega | (simp; omega) | simp); have qC9 := fun o => hc9 w4.heap.size o (by first | omega | (simp; omega) | simp); have qD9 := fun o => hc9 (w4.heap.size + 1) o (by first | omega | (simp; omega) | simp); have zA9 : w2.heap.size < w9.heap.size := (by have := hb9.size; (try simp at this); omega); have zC9 : w4.heap.size < w9.heap.size := (by have := hb9.size; (try simp at this); omega); have zD9 : w4.heap.size + 1 < w9.heap.size := (by have := hb9.size; (try simp at this); omega)) | (go_at_call 27; (with_reducible refine (mb _).mono ?_); rintro e w10 ⟨rfl, hb10⟩; obtain ⟨hc10, hf10⟩ := later hb10; have qA10 := fun o => hc10 w2.heap.size o (by first | omega | (simp; omega) | simp); have qC10 := fun o => hc10 w4.heap.size o (by first | omega | (simp; omega) | simp); have qD10 := fun o => hc10 (w4.heap.size + 1) o (by first | omega | (simp; omega) | simp); have zA10 : w2.heap.size < w10.heap.size := (by have := hb10.size; (try simp at this); omega); have zC10 : w4.heap.size < w10.heap.size := (by have := hb10.size; (try simp at this); omega); have zD10 : w4.heap.size + 1 < w10.heap.size := (by have := hb10.size; (try simp at this); omega)))
      go_ret
      have b3 := below_then2 (hb1.trans (hb2.mono hb1.size)) (below_box _ _ hb3)
      have b4 := below_then2 b3 (below_box _ _ hb4)
      have b5 := below_then2 b4 (below_box _ _ (below_box _ _ hb5))
      have b7 := below_then2 (below_then2 b5 hb6) hb7
      exact ⟨rfl, below_then2 (below_then2 (below_then2 b7 hb8) hb9) hb10⟩

end Go.Proofs.Ytahlflennmdckaa
