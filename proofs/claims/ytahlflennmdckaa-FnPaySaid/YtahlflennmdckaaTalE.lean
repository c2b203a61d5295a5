/- The walks of balances and of the reference's l6yBalance. -/
import Derived.Test.YtahlflennmdckaaTalD
import Derived.RegionTactic
import Derived.ChangeAlike
namespace Go.Proofs.Ytahlflennmdckaa
open Go.RowKit Go.PlainAid
set_option linter.unusedVariables false
set_option linter.unusedSimpArgs false

def balC (ts : List Tal) : Array Value := #[.int .i64 (balP ts 0), .int .i64 (balP ts 1), .int .i64 (balP ts 2), .int .i64 (balP ts 3), .int .i64 (balP ts 4)]
theorem balC_at (ts : List Tal) {i : Nat} (hi : i < 5) : (balC ts)[i]? = some (.int .i64 (balP ts i)) := by
  have : i = 0 ∨ i = 1 ∨ i = 2 ∨ i = 3 ∨ i = 4 := by omega
  rcases this with e | e | e | e | e <;> subst e <;> rfl
theorem bal_snoc (ts : List Tal) (t : Tal) (p : Int) : balP (ts ++ [t]) p = balP ts p + cr p t := by rw [balP_append]; simp [balP]
/-- one tally more: both people's balances. -/
theorem balC_next (ts : List Tal) (t : Tal) {d c : Nat} (hd : d < 5) (hc : c < 5) (hdc : d ≠ c) (e1 : t.d = d) (e2 : t.c = c) :
    ((balC ts).setIfInBounds d (.int .i64 (balP ts d - wt t))).setIfInBounds c (.int .i64 (balP ts c + wt t)) = balC (ts ++ [t]) := by
  unfold balC
  simp only [bal_snoc]
  unfold cr
  rw [e1, e2]
  have h1 : d = 0 ∨ d = 1 ∨ d = 2 ∨ d = 3 ∨ d = 4 := by omega
  have h2 : c = 0 ∨ c = 1 ∨ c = 2 ∨ c = 3 ∨ c = 4 := by omega
  rcases h1 with e | e | e | e | e <;> rcases h2 with e' | e' | e' | e' | e' <;> first | (exfalso; omega) | (subst e; subst e'; simp <;> omega)
theorem balC_next' (ts : List Tal) (t : Tal) {d c : Nat} (hd : d < 5) (hc : c < 5) (hdc : d ≠ c) (e1 : t.d = d) (e2 : t.c = c) :
    ((balC ts).setIfInBounds c (.int .i64 (balP ts c + wt t))).setIfInBounds d (.int .i64 (balP ts d - wt t)) = balC (ts ++ [t]) := by
  rw [← balC_next ts t hd hc hdc e1 e2]
  rw [Array.setIfInBounds_comm _ _ (Ne.symm hdc)]

/-- A slice of debts that is read. -/
def DR (w : World) (B : Nat) (A : Option Addr) (ts : List Tal) : Prop := RC w B A (dcells ts)
theorem DR.at_ {w : World} {B : Nat} {A : Option Addr} {ts : List Tal} (h : DR w B A ts) {i : Nat} (hi : i < ts.length) : ∃ b off, A = some ⟨b, off, none⟩ ∧ b < B ∧
    w.cell? ⟨b, off + i * 3, none⟩ = some (.int .i64 (tx ts i).d) ∧ w.cell? ⟨b, off + i * 3 + 1, none⟩ = some (.int .i64 (tx ts i).c) ∧ w.cell? ⟨b, off + i * 3 + 2, none⟩ = some (.int .i64 (wt (tx ts i))) := by
  obtain ⟨b, off, e, hb, hc⟩ := h (by rw [dcells_len]; omega)
  obtain ⟨c0, c1, c2⟩ := dcells_at ts hi
  exact ⟨b, off, e, hb, hc _ _ c0, hc _ _ c1, hc _ _ c2⟩

def BalPost (ts : List Tal) (w : World) (e : Ending) (w' : World) : Prop :=
  e = .returned (.agg #[.int .i64 (balP ts 0), .int .i64 (balP ts 1), .int .i64 (balP ts 2), .int .i64 (balP ts 3), .int .i64 (balP ts 4)]) ∧ Below w.heap.size w w'
theorem tok_dc {t : Tal} (h : tokB t = true) : ∃ d c : Nat, t.d = d ∧ t.c = c ∧ d < 5 ∧ c < 5 ∧ d ≠ c ∧ 1 ≤ wt t ∧ wt t ≤ 9999 := by
  obtain ⟨h1, _, _, h4, h5⟩ := tok_yes h
  obtain ⟨k1, k2, k3, k4, k5⟩ := two_yes h1
  exact ⟨t.d.toNat, t.c.toNat, by omega, by omega, by omega, by omega, by omega, h4, h5⟩

set_option maxHeartbeats 4000000 in
theorem balances_any (A : Option Addr) (c : Nat) (ts : List Tal) (w : World) (h : DR w w.heap.size A ts) (hv : tvB ts = true) :
    Calls Try.prog 71 #[.slice A ts.length c] w (BalPost ts w) := by
  obtain ⟨hl, hok⟩ := tv_yes hv
  have HOK := Lib.hid hok
  have HT := Lib.hid h
  clear hv hok h
  have b0 := Blk.new w 89 #[.int .i64 0, .int .i64 0, .int .i64 0, .int .i64 0, .int .i64 0]
  have b1 := Blk.new (w.alloc (.cells #[.int .i64 0, .int .i64 0, .int .i64 0, .int .i64 0, .int .i64 0] 89)) 89 #[.int .i64 0, .int .i64 0, .int .i64 0, .int .i64 0, .int .i64 0]
  have b2 := b0.alloc (.cells #[.int .i64 0, .int .i64 0, .int .i64 0, .int .i64 0, .int .i64 0] 89)
  rw [World.size_alloc] at b1
  go_enter Try.func71, Try.ntmps71
  go_wp2
  go_loopw [5, 8] (fun _ i wr => ∃ k : Nat, k ≤ ts.length ∧ i = .int .i64 k ∧ Blk wr (w.heap.size + 1) 89 (balC (ts.take k)) ∧ Blk wr w.heap.size 89 #[.int .i64 0, .int .i64 0, .int .i64 0, .int .i64 0, .int .i64 0] ∧ Below w.heap.size w wr) (fun _ i _ => ts.length - (intOf i).toNat)
  case atStart => exact ⟨0, Nat.zero_le _, rfl, b1, b2, ((Below.refl _ _).alloc (Nat.le_refl _) _).alloc (by simp) _⟩
  case round =>
    obtain ⟨k, hk, rfl, hB, hR, hb⟩ := hrel
    clear b0 b1 b2
    have hBl := hB.lt
    by_cases hlt : k < ts.length
    · obtain ⟨b, off, rfl, hbb, t0, t1, t2⟩ := DR.at_ (RC.below HT.out hb (Nat.le_refl _)) hlt
      obtain ⟨d, c', e1, e2, hd, hc, hdc, x0, x9⟩ := tok_dc (HOK.out _ (tx_mem ts hlt))
      have hbd := balP_bd d (ts.take k)
      have hbc := balP_bd c' (ts.take k)
      have hlk : ((ts.take k).length : Int) ≤ 12 := by rw [List.length_take]; omega
      have hnext := Lib.hid (balC_next (ts.take k) (tx ts k) hd hc hdc e1 e2)
      rw [← tx_take ts hlt] at hnext
      rw [e1] at t0
      rw [e2] at t1
      have cd := (hB.cell d).trans (balC_at (ts.take k) hd)
      have cc := (hB.cell c').trans (balC_at (ts.take k) hc)
      have fd := hB.frozen d
      have fc := hB.frozen c'
      generalize wt (tx ts k) = x at *
      generalize balP (ts.take k) d = p at *
      generalize balP (ts.take k) c' = q at *
      have hbw : b < wr.heap.size := by have := hb.size; omega
      have n1 : ¬ w.heap.size + 1 = wr.heap.size := by omega
      have n2 : ¬ wr.heap.size = w.heap.size + 1 := by omega
      have n3 : ¬ d = c' := hdc
      have n4 : ¬ c' = d := fun e => hdc e.symm
      have i1 : (0 : Int) ≤ (d : Int) := by omega
      have i2 : (d : Int) < 5 := by omega
      have i3 : (0 : Int) ≤ (c' : Int) := by omega
      have i4 : (c' : Int) < 5 := by omega
      have s1 : IntKind.i64.wrap (p - x) = p - x := IntWalk.i64_in _ (by omega)
      have s2 : IntKind.i64.wrap (q + x) = q + x := IntWalk.i64_in _ (by omega)
      clear e1 e2
      go_wp2_with fail
      go_region
      all_goals
        go_wp2_with fail
        go_region
      all_goals
        go_wp2_with fail
        go_roundw
        case rel =>
          refine ⟨k + 1, by omega, by go_num, ?_, ?_, ?_⟩
          · have := ((hB.set_ d (.int .i64 (p - x))).set_ c' (.int .i64 (q + x))).alloc (.cells #[.int .i64 (d : Int), .int .i64 (c' : Int), .int .i64 x] 77)
            rw [hnext.out] at this
            exact this
          · exact ((hR.far (p := ⟨w.heap.size + 1, d, none⟩) (by simp) _).far (p := ⟨w.heap.size + 1, c', none⟩) (by simp) _).alloc _
          · exact (((hb.setCell (p := ⟨w.heap.size + 1, d, none⟩) (by simp) _).setCell (p := ⟨w.heap.size + 1, c', none⟩) (by simp) _).alloc (by simpa using hb.size) _).drew.drew
        case measure => simp [intOf] <;> omega
    · have HE := Lib.hid (show k = ts.length by omega)
      rw [HE.out, List.take_of_length_le (Nat.le_refl _)] at hB
      have r0 := hB.cell 0
      have r1 := hB.cell 1
      have r2 := hB.cell 2
      have r3 := hB.cell 3
      have r4 := hB.cell 4
      have q0 := hR.cell 0
      have q1 := hR.cell 1
      have q2 := hR.cell 2
      have q3 := hR.cell 3
      have q4 := hR.cell 4
      have f0 := hR.frozen 0
      have f1 := hR.frozen 1
      have f2 := hR.frozen 2
      have f3 := hR.frozen 3
      have f4 := hR.frozen 4
      unfold balC at r0 r1 r2 r3 r4
      simp at r0 r1 r2 r3 r4 q0 q1 q2 q3 q4
      clear hB
      go_wp2_with fail
      refine bodyPost_ret (v := .agg #[.int .i64 (balP ts 0), .int .i64 (balP ts 1), .int .i64 (balP ts 2), .int .i64 (balP ts 3), .int .i64 (balP ts 4)]) (by simp [results, Try.results71, go_sem, q0, q1, q2, q3, q4]) rfl ⟨rfl, ?_⟩
      exact ((((hb.setCell (p := ⟨w.heap.size, 0, none⟩) (by simp) _).setCell (p := ⟨w.heap.size, 1, none⟩) (by simp) _).setCell (p := ⟨w.heap.size, 2, none⟩) (by simp) _).setCell (p := ⟨w.heap.size, 3, none⟩) (by simp) _).setCell (p := ⟨w.heap.size, 4, none⟩) (by simp) _

end Go.Proofs.Ytahlflennmdckaa
