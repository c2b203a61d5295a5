/- The walks of the laws' helpers over lists of integers: toIntS, eqIntS, markIntS, heldIntS. No condition but bounds on lengths. -/
import Derived.Test.YtahlflennmdckaaIn
namespace Go.Proofs.Ytahlflennmdckaa
open Go.RowKit
set_option linter.unusedVariables false

/-- what a function that hands back a new list of integers leaves. -/
def RetInts (w : World) (zs : List Int) (e : Ending) (w' : World) : Prop := ∃ A c, e = .returned (.slice A zs.length c) ∧ IR w' w.heap.size A c zs ∧ Below w.heap.size w w'

/-- a new list of integers and a bool. -/
def RetIB (w : World) (zs : List Int) (b : Bool) (e : Ending) (w' : World) : Prop := ∃ A c, e = .returned (.tuple #[.slice A zs.length c, .bool b]) ∧ IR w' w.heap.size A c zs ∧ Below w.heap.size w w'

theorem set_take_drop (zs : List Int) (n k : Nat) (hk : k < zs.length) (hl : zs.length = n) : (zs.take k ++ List.replicate (n - k) 0).set k (ix zs k) = zs.take (k + 1) ++ List.replicate (n - (k + 1)) 0 := by
  apply List.ext_getElem?
  intro i
  rw [List.getElem?_set]
  by_cases h : k = i
  · subst h
    rw [if_pos rfl, if_pos (by simp; omega), List.getElem?_append_left (by rw [List.length_take]; omega), List.getElem?_take, if_pos (by omega)]
    rw [ix_some zs hk]
  · rw [if_neg h]
    by_cases h2 : i < k
    · rw [List.getElem?_append_left (by rw [List.length_take]; omega), List.getElem?_append_left (by rw [List.length_take]; omega), List.getElem?_take, List.getElem?_take, if_pos h2, if_pos (by omega)]
    · rw [List.getElem?_append_right (by rw [List.length_take]; omega), List.getElem?_append_right (by rw [List.length_take]; omega), List.length_take, List.length_take, List.getElem?_replicate, List.getElem?_replicate]
      by_cases h3 : i < n
      · rw [if_pos (by omega), if_pos (by omega)]
      · rw [if_neg (by omega), if_neg (by omega)]

theorem mark_set (n k : Nat) (m : Int) (zs : List Int) (hk : k < n) (hl : zs.length = n) :
    ((List.range k).map (fun i : Nat => m + (i : Int)) ++ zs.drop k).set k (m + (k : Int)) = (List.range (k + 1)).map (fun i : Nat => m + (i : Int)) ++ zs.drop (k + 1) := by
  rw [List.set_append_right _ _ (by simp), List.length_map, List.length_range, Nat.sub_self, List.range_succ, List.map_append, List.append_assoc]
  congr 1
  rw [List.drop_eq_getElem_cons (by omega)]
  rfl

/-- the marks that markIntS lays. -/
def marks (m : Int) (n : Nat) : List Int := (List.range n).map fun i : Nat => m + (i : Int)
theorem marks_len (m : Int) (n : Nat) : (marks m n).length = n := by simp [marks]

set_option maxHeartbeats 400000 in
theorem markIntS_any (B : Nat) (A : Option Addr) (c : Nat) (zs : List Int) (m : Int) (w : World) (h : IR w B A c zs) (hl : zs.length ≤ 1048576) (hm0 : 0 ≤ m) (hm1 : m ≤ 1000000000000) :
    Calls Try.prog 36 #[.slice A zs.length c, .int .i64 m] w fun e w' => e = .returned (.int .i64 (m + (zs.length : Int))) ∧ IR w' B A c (marks m zs.length) ∧ w.grownBy w' (A.map (·.block)) := by
  rw [← ownBlock_slice A zs.length c]
  go_enter Try.func36, Try.ntmps36
  go_wp2
  go_loopw [1, 5] (fun x i wr => ∃ k : Nat, k ≤ zs.length ∧ i = .int .i64 k ∧ x = .int .i64 (m + (k : Int)) ∧ IR wr B A c ((List.range k).map (fun i : Nat => m + (i : Int)) ++ zs.drop k) ∧ w.grownBy wr (Value.slice A zs.length c).ownBlock) (fun _ i _ => zs.length - (intOf i).toNat)
  case atStart => exact ⟨0, Nat.zero_le _, rfl, int_eq (by omega), by simpa using h, World.grownBy.refl _ _⟩
  case round =>
    obtain ⟨k, hk, rfl, rfl, hown, hg⟩ := hrel
    have hlen : ((List.range k).map (fun i : Nat => m + (i : Int)) ++ zs.drop k).length = zs.length := by simp; omega
    by_cases hlt : k < zs.length
    · obtain ⟨g, rfl, _, hgs, _, _, hcell, hfro⟩ := hown.form (by omega)
      have hc2 := hcell k (by omega)
      have hf2 := hfro k
      have HO := Lib.hid (IR.set hown k (m + (k : Int)))
      rw [mark_set _ k m zs hlt rfl] at HO
      clear hcell hfro hown
      go_wp2
      go_roundw
      case rel =>
        refine ⟨k + 1, by omega, by go_num, by go_num, HO.out, ⟨hg.os, hg.tape, hg.output, by simpa [World.setCell] using hg.size, fun i hi hne => ?_⟩⟩
        rw [Below.heap_setCell _ _ _ _ (by rintro rfl; exact hne rfl)]
        exact hg.block i hi hne
      case measure => simp [intOf] <;> omega
    · have HE := Lib.hid (show k = zs.length by omega)
      go_wp2
      go_ret
      refine ⟨ret_int (by rw [HE.out]), ?_, hg⟩
      rw [HE.out] at hown
      simpa [marks] using hown

theorem marks_ix (m : Int) (n k : Nat) (hk : k < n) : ix (marks m n) k = m + (k : Int) := by
  simp [ix, marks, List.getD_eq_getElem?_getD, hk]

set_option maxHeartbeats 400000 in
theorem heldIntS_any (A : Option Addr) (c n : Nat) (m : Int) (w : World) (h : RD .i64 w w.heap.size A (marks m n)) (hl : n ≤ 1048576) (hm0 : 0 ≤ m) (hm1 : m ≤ 1000000000000) :
    Calls Try.prog 37 #[.slice A n c, .int .i64 m] w fun e w' => e = .returned (.int .i64 (m + (n : Int))) ∧ w = w' := by
  go_enter Try.func37, Try.ntmps37
  go_wp2
  go_loop [1, 5] (fun x i => ∃ k : Nat, k ≤ n ∧ i = .int .i64 k ∧ x = .int .i64 (m + (k : Int))) (fun _ i => n - (intOf i).toNat)
  case atStart => exact ⟨0, Nat.zero_le _, rfl, int_eq (by omega)⟩
  case round =>
    obtain ⟨k, hk, rfl, rfl⟩ := hrel
    by_cases hlt : k < n
    · obtain ⟨b, off, rfl, hbb, hc⟩ := h.at_ (i := k) (by rw [marks_len]; exact hlt)
      rw [marks_ix _ _ _ hlt] at hc
      go_wp2
      go_round
      case rel => exact ⟨k + 1, by omega, by go_num, by go_num⟩
      case measure => simp [intOf] <;> omega
    · have HE := Lib.hid (show k = n by omega)
      go_wp2
      go_ret
      exact ⟨ret_int (by rw [HE.out]), rfl⟩

set_option maxHeartbeats 400000 in
theorem eqIntS_yes (A C : Option Addr) (c d : Nat) (zs : List Int) (w : World) (h : RD .i64 w w.heap.size A zs) (h' : RD .i64 w w.heap.size C zs) (hl : zs.length ≤ 1048576) :
    Calls Try.prog 33 #[.slice A zs.length c, .slice C zs.length d] w fun e w' => e = .returned (.bool true) ∧ ∃ n, w' = w.drewN n := by
  go_enter Try.func33, Try.ntmps33
  go_wp2
  go_loopw [5] (fun i wr => ∃ k : Nat, k ≤ zs.length ∧ i = .int .i64 k ∧ ∃ n, wr = w.drewN n) (fun i _ => zs.length - (intOf i).toNat)
  case atStart => exact ⟨0, Nat.zero_le _, rfl, 0, rfl⟩
  case round =>
    obtain ⟨k, hk, rfl, n, rfl⟩ := hrel
    by_cases hlt : k < zs.length
    · obtain ⟨b, off, rfl, hbb, hc⟩ := h.at_ (i := k) hlt
      obtain ⟨b', off', rfl, hbb', hc'⟩ := h'.at_ (i := k) hlt
      go_wp2
      go_quiet (fail)
      go_wp2
      go_roundw
      case rel => exact ⟨k + 1, by omega, by go_num, _, rfl⟩
      case measure => simp [intOf] <;> omega
    · have HE := Lib.hid (show k = zs.length by omega)
      go_wp2
      go_ret
      exact ⟨rfl, n, rfl⟩

/-- two rows that calls made one behind the other lie in different blocks. -/
theorem IR.apart {w w' : World} {B B' : Nat} {A A' : Option Addr} {c c' : Nat} {zs zs' : List Int} (h : IR w B A c zs) (h' : IR w' B' A' c' zs') (hB : w.heap.size ≤ B') : ∀ g, A.map (·.block) = some g → A'.map (·.block) ≠ some g := by
  intro g e e'
  have h1 := h.span g e
  have h2 := h'.span g e'
  omega

end Go.Proofs.Ytahlflennmdckaa
