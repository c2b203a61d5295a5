/- The walks of the laws' helpers over lists of integers: toIntS, eqIntS, markIntS, heldIntS. No condition but bounds on lengths. -/
import Derived.Test.YticnnfmmfjfffaaDoorIn
namespace Go.Proofs.YticnnfmmfjfffaaDoor
open Go.RowKit
set_option linter.unusedVariables false

/-- what a function that hands back a new list of integers leaves. -/
def RetInts (w : World) (zs : List Int) (e : Ending) (w' : World) : Prop := ∃ A c, e = .returned (.slice A zs.length c) ∧ IR w' w.heap.size A c zs ∧ Below w.heap.size w w'

/-- a new list of integers and a bool. -/
def RetIB (w : World) (zs : List Int) (b : Bool) (e : Ending) (w' : World) : Prop := ∃ A c, e = .returned (.tuple #[.slice A zs.length c, .bool b]) ∧ IR w' w.heap.size A c zs ∧ Below w.heap.size w w'

theorem set_take_drop (zs : List Int) (n k : Nat) (hk : k < zs.length) (hl : zs.length = n) : (zs.take k ++ List.replicate (n - k) 0).set k (ix zs k) = zs.take (k + 1) ++ List.replicate (n - (k + 1)) 0 := by
  apply List.ext_getElem?
  intro i
  rw [List.getElem?_set]
  by_cases h : k = i
  · subst h
    rw [if_pos rfl, if_pos (by simp; omega), List.getElem?_append_left (by rw [List.length_take]; omega), List.getElem?_take, if_pos (by omega)]
    rw [ix_some zs hk]
  · rw [if_neg h]
    by_cases h2 : i < k
    · rw [List.getElem?_append_left (by rw [List.length_take]; omega), List.getElem?_append_left (by rw [List.length_take]; omega), List.getElem?_take, List.getElem?_take, if_pos h2, if_pos (by omega)]
    · rw [List.getElem?_append_right (by rw [List.length_take]; omega), List.getElem?_append_right (by rw [List.length_take]; omega), List.length_take, List.length_take, List.getElem?_replicate, List.getElem?_replicate]
      by_cases h3 : i < n
      · rw [if_pos (by omega), if_pos (by omega)]
      · rw [if_neg (by omega), if_neg (by omega)]

set_option maxHeartbeats 400000 in
theorem toIntS_any (A : Option Addr) (c : Nat) (zs : List Int) (w : World) (h : RD .i64 w w.heap.size A zs) (hl : zs.length ≤ 1048576) :
    Calls Tryd.prog 10 #[.slice A zs.length c] w (RetInts w zs) := by
  go_enter Tryd.func10, Tryd.ntmps10
  go_wp2_with (at_make; refine wpList_mk rfl _ _ rfl _ _ zs.length rfl rfl rfl rfl (by omega) ?_; intro w1 hown1 hb1)
  go_loopw [4] (fun i wr => ∃ k : Nat, k ≤ zs.length ∧ i = .int .i64 k ∧ IR wr w.heap.size (some ⟨w.heap.size, 0, none⟩) zs.length (zs.take k ++ List.replicate (zs.length - k) 0) ∧ Below w.heap.size w wr) (fun i _ => zs.length - (intOf i).toNat)
  case atStart => exact ⟨0, Nat.zero_le _, rfl, by simpa using hown1, hb1⟩
  case round =>
    obtain ⟨k, hk, rfl, hown, hb⟩ := hrel
    by_cases hlt : k < zs.length
    · obtain ⟨b, off, rfl, hbb, hc⟩ := (h.below hb (Nat.le_refl _)).at_ hlt
      have hlen : (zs.take k ++ List.replicate (zs.length - k) 0).length = zs.length := by simp; omega
      obtain ⟨g, eg, _, _, _, _, hcell, hfro⟩ := hown.form (by omega)
      injection eg with eg
      injection eg with eg
      subst eg
      have hc2 := hcell k (by omega)
      have hf2 := hfro k
      have HO := Lib.hid (IR.set hown k (ix zs k))
      rw [set_take_drop zs _ k hlt rfl] at HO
      clear hcell hfro hlen hown
      go_wp2
      go_roundw
      case rel => exact ⟨k + 1, by omega, by go_num, HO.out, hb.setCell (Nat.le_refl _) _⟩
      case measure => simp [intOf] <;> omega
    · have HE := Lib.hid (show k = zs.length by omega)
      go_wp2
      go_ret
      refine ⟨_, _, rfl, ?_, hb⟩
      rw [HE.out] at hown
      simpa using hown

theorem mark_set (n k : Nat) (m : Int) (zs : List Int) (hk : k < n) (hl : zs.length = n) :
    ((List.range k).map (fun i : Nat => m + (i : Int)) ++ zs.drop k).set k (m + (k : Int)) = (List.range (k + 1)).map (fun i : Nat => m + (i : Int)) ++ zs.drop (k + 1) := by
  rw [List.set_append_right _ _ (by simp), List.length_map, List.length_range, Nat.sub_self, List.range_succ, List.map_append, List.append_assoc]
  congr 1
  rw [List.drop_eq_getElem_cons (by omega)]
  rfl

/-- the marks that markIntS lays. -/
def marks (m : Int) (n : Nat) : List Int := (List.range n).map fun i : Nat => m + (i : Int)
theorem marks_len (m : Int) (n : Nat) : (marks m n).length = n := by simp [marks]

theorem marks_ix (m : Int) (n k : Nat) (hk : k < n) : ix (marks m n) k = m + (k : Int) := by
  simp [ix, marks, List.getD_eq_getElem?_getD, hk]

set_option maxHeartbeats 400000 in
theorem eqIntS_yes (A C : Option Addr) (c d : Nat) (zs : List Int) (w : World) (h : RD .i64 w w.heap.size A zs) (h' : RD .i64 w w.heap.size C zs) (hl : zs.length ≤ 1048576) :
    Calls Tryd.prog 12 #[.slice A zs.length c, .slice C zs.length d] w fun e w' => e = .returned (.bool true) ∧ ∃ n, w' = w.drewN n := by
  go_enter Tryd.func12, Tryd.ntmps12
  go_wp2
  go_loopw [5] (fun i wr => ∃ k : Nat, k ≤ zs.length ∧ i = .int .i64 k ∧ ∃ n, wr = w.drewN n) (fun i _ => zs.length - (intOf i).toNat)
  case atStart => exact ⟨0, Nat.zero_le _, rfl, 0, rfl⟩
  case round =>
    obtain ⟨k, hk, rfl, n, rfl⟩ := hrel
    by_cases hlt : k < zs.length
    · obtain ⟨b, off, rfl, hbb, hc⟩ := h.at_ (i := k) hlt
      obtain ⟨b', off', rfl, hbb', hc'⟩ := h'.at_ (i := k) hlt
      go_wp2
      go_quiet (fail)
      go_wp2
      go_roundw
      case rel => exact ⟨k + 1, by omega, by go_num, _, rfl⟩
      case measure => simp [intOf] <;> omega
    · have HE := Lib.hid (show k = zs.length by omega)
      go_wp2
      go_ret
      exact ⟨rfl, n, rfl⟩

/-- two rows that calls made one behind the other lie in different blocks. -/
theorem IR.apart {w w' : World} {B B' : Nat} {A A' : Option Addr} {c c' : Nat} {zs zs' : List Int} (h : IR w B A c zs) (h' : IR w' B' A' c' zs') (hB : w.heap.size ≤ B') : ∀ g, A.map (·.block) = some g → A'.map (·.block) ≠ some g := by
  intro g e e'
  have h1 := h.span g e
  have h2 := h'.span g e'
  omega

end Go.Proofs.YticnnfmmfjfffaaDoor
