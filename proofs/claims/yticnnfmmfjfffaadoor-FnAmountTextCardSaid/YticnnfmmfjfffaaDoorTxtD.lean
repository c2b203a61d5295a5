/- The walk of the reference's l6Dec. -/
import Derived.Test.YticnnfmmfjfffaaDoorMeaT
import Derived.Test.YticnnfmmfjfffaaDoorTxtP
import Derived.Laws.BytesArg
import Derived.Deep.RegionLaw
namespace Go.Proofs.YticnnfmmfjfffaaDoor
open Go.RowKit
open Go.Lib (decDigits)
set_option linter.unusedVariables false
set_option linter.unusedSimpArgs false

/-- The text of a number. -/
def dtx (n : Int) : ByteArray := ⟨(decDigits n.toNat).toArray⟩
theorem son_one (d : Nat) : strOfNums [48 + (d : Int)] = ⟨#[UInt8.ofNat (48 + d)]⟩ := by
  unfold strOfNums
  simp only [List.map_cons, List.map_nil]
  have : (48 + (d : Int)).toNat = 48 + d := by omega
  rw [this]
theorem dtx_small {n : Int} (h0 : 0 ≤ n) (h : n < 10) : strOfNums [48 + n] = dtx n := by
  obtain ⟨k, rfl⟩ := Int.eq_ofNat_of_zero_le h0
  unfold dtx
  rw [Int.toNat_natCast, dec_small (by omega), son_one]
theorem dtx_big {n : Int} (h : 10 ≤ n) : dtx (n / 10) ++ strOfNums [48 + n % 10] = dtx n := by
  obtain ⟨k, rfl⟩ := Int.eq_ofNat_of_zero_le (show 0 ≤ n by omega)
  have e : (k : Int) % 10 = ((k % 10 : Nat) : Int) := by omega
  have e2 : ((k : Int) / 10).toNat = k / 10 := by omega
  unfold dtx
  rw [e, son_one, e2, Int.toNat_natCast, dec_big (u := k) (by omega)]
  apply ByteArray.ext
  simp
theorem nd_le {u k : Nat} (h : u < 10 ^ (k + 1)) : (decDigits u).length ≤ k + 1 := by
  induction k generalizing u with
  | zero => rw [dec_small (by simpa using h)]; simp
  | succ k ih =>
    by_cases h10 : u < 10
    · rw [dec_small h10]; simp
    · rw [dec_big h10, List.length_append]
      have := ih (u := u / 10) (by rw [Nat.pow_succ] at h; omega)
      simp; omega
theorem dtx_size {n : Int} (h : n ≤ 10000000000) : (dtx n).size ≤ 11 := by
  have := nd_le (u := n.toNat) (k := 10) (by omega)
  show (decDigits n.toNat).toArray.size ≤ 11
  simpa using this
theorem byte_cell (w : World) (z : Int) : (w.alloc (.cells #[.int .u8 z] 5)).cell? ⟨w.heap.size, 0, none⟩ = some (.int .u8 z) :=
  (cell_of_row (w.alloc (.cells #[.int .u8 z] 5)) w.heap.size 0 _ _ (0, 0) (heap_alloc_new w _)).trans rfl
theorem conv_at (w : World) (s : Nat) (z : Int) (h : w.cell? ⟨s, 0, none⟩ = some (.int .u8 z)) : (convert 22 9 (.slice (some ⟨s, 0, none⟩) 1 1)).run Tryd.prog w = .ok (.string (strOfNums [z])) w :=
  run_convert_bytes_arg _ _ 5 Tryd.underlying22 Tryd.underlying5 s 0 1 1 [z] rfl (fun i hi => by
    have : i = 0 := by omega
    subst this
    exact h) _ Tryd.underlying9

theorem dec_b1 {w w2 : World} (h : Below w.drew.heap.size w.drew w2) (o : Obj) : Below w.heap.size w (w2.alloc o) :=
  (((Below.refl w.heap.size w).drew).trans h).alloc h.size o
theorem dec_b2 {w w2 : World} {o : Obj} (h : Below (w.alloc o).drew.heap.size (w.alloc o).drew w2) : Below w.heap.size w w2 :=
  (((Below.refl w.heap.size w).alloc (Nat.le_refl _) o).drew).trans (h.mono (by simp))
set_option maxHeartbeats 2000000 in
theorem l6Dec_any (k : Nat) : ∀ (n : Int) (w : World), n ≤ k → 0 ≤ n → n ≤ 10000000000 →
    Calls Tryd.prog 19 #[.int .i64 n] w fun e w' => e = .returned (.string (dtx n)) ∧ Below w.heap.size w w' := by
  have kc := fun (w : World) (z : Int) => conv_at (w.alloc (.cells #[.int .u8 z] 5)) w.heap.size z (byte_cell w z)
  induction k with
  | zero =>
    intro n w hk h0 h1
    obtain rfl : n = 0 := by omega
    have e := dtx_small (n := 0) (by omega) (by omega)
    have HE := Lib.hid e
    clear e
    go_enter Tryd.func19, Tryd.ntmps19
    go_wp2_with fail
    go_ret
    exact ⟨by rw [← HE.out]; rfl, (Below.refl _ _).alloc (Nat.le_refl _) _⟩
  | succ k ih =>
    intro n w hk h0 h1
    by_cases h10 : n < 10
    · have HE := Lib.hid (dtx_small h0 h10)
      go_enter Tryd.func19, Tryd.ntmps19
      go_wp2_with fail
      go_ret
      exact ⟨by rw [← HE.out]; rfl, (Below.refl _ _).alloc (Nat.le_refl _) _⟩
    · have HE := Lib.hid (dtx_big (n := n) (by omega))
      have hsz := dtx_size (n := n / 10) (by omega)
      have hs1 := strOfNums_size [48 + n % 10]
      have hr := fun w => ih (n / 10) w (by omega) (by omega) (by omega)
      generalize dtx (n / 10) = D at *
      go_enter Tryd.func19, Tryd.ntmps19
      have q0 : 0 ≤ n / 10 := by omega
      have q1 : n / 10 ≤ 1000000000 := by omega
      have q2 : 0 ≤ n % 10 := by omega
      have q3 : n % 10 ≤ 9 := by omega
      have s1 : IntKind.i64.wrap (n / 10) = n / 10 := IntWalk.i64_in _ (by omega)
      have s2 : IntKind.i64.wrap (n % 10) = n % 10 := IntWalk.i64_in _ (by omega)
      have s3 : IntKind.i64.wrap (48 + n % 10) = 48 + n % 10 := IntWalk.i64_in _ (by omega)
      have s4 : IntKind.u8.wrap (48 + n % 10) = 48 + n % 10 := by
        have : n % 10 = 0 ∨ n % 10 = 1 ∨ n % 10 = 2 ∨ n % 10 = 3 ∨ n % 10 = 4 ∨ n % 10 = 5 ∨ n % 10 = 6 ∨ n % 10 = 7 ∨ n % 10 = 8 ∨ n % 10 = 9 := by omega
        rcases this with e | e | e | e | e | e | e | e | e | e <;> rw [e] <;> rfl
      have t1 : n.tdiv 10 = n / 10 := Int.tdiv_eq_ediv_of_nonneg h0
      have t2 : n.tmod 10 = n % 10 := Int.tmod_eq_emod_of_nonneg h0
      have hcat : ¬ 9223372036854775807 < D.size + (strOfNums [48 + n % 10]).size := by rw [hs1]; simp; omega
      have HS1 := Lib.hid hs1
      clear hs1
      go_wp2_with fail
      have kd := fun (w : World) (z : Int) => conv_at (w.alloc (.cells #[.int .u8 z] 5)).drew w.heap.size z (byte_cell w z)
      go_region_law (first
        | (go_simp; go_at_call 19; refine (hr _).mono ?_; rintro e w2 ⟨rfl, hb2⟩; have hcv := conv_at w2 w.heap.size (48 + n % 10) ((hb2.cell (p := ⟨w.heap.size, 0, none⟩) (by simp)).trans (byte_cell w (48 + n % 10))))
        | (go_simp; go_at_call 19; refine (hr _).mono ?_; rintro e w2 ⟨rfl, hb2⟩))
      all_goals
        go_wp2_with fail
        go_ret
        refine ⟨by rw [← HE.out]; rfl, ?_⟩
        first
          | exact dec_b1 hb2 _
          | exact dec_b2 hb2

end Go.Proofs.YticnnfmmfjfffaaDoor
