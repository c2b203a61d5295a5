/- The walks of the draws of notches. -/
import Derived.Test.YtahlflennmdckaaDrw
import Derived.Test.YtahlflennmdckaaNotI
namespace Go.Proofs.Ytahlflennmdckaa
open Go.RowKit Go.PlainAid
set_option linter.unusedVariables false
set_option linter.unusedSimpArgs false

theorem ncan_len (s : NS) : (ncan s).length = nlen s := by simp [ncan, nlen]; omega
theorem noR_size (n : Int) : (noR n).size ≤ 36 := by
  cases h : noB n with
  | false => rw [noR_no h]; simp [ByteArray.size]
  | true =>
    rw [noR_yes h, ntx, ← size_list]
    unfold noB at h
    simp at h
    have := nsOf_ok (n := n.toNat) (by omega)
    obtain ⟨o1, o2, o3, o4⟩ := this
    simp [ncan_len, nlen]
    omega

/-- The i-th text. -/
def tix (ls : List ByteArray) (i : Nat) : ByteArray := ls.getD i ByteArray.empty
theorem tix_mem {ls : List ByteArray} {i : Nat} (h : i < ls.length) : tix ls i ∈ ls := by
  unfold tix; rw [List.getD_eq_getElem?_getD, List.getElem?_eq_getElem h]; exact List.getElem_mem _

/-- A text was drawn. -/
def StrPost (P : ByteArray → Prop) (B g : Nat) (p : Int) (k : Nat) (w : World) (e : Ending) (w' : World) : Prop :=
  ∃ (s : ByteArray) (p' : Int), P s ∧ p ≤ p' ∧ p' ≤ p + k ∧ e = .returned (.string s) ∧ Rdr w' B g p' ∧ w.grownBy w' (some g)

theorem of_any (B g b : Nat) (p : Int) (ls : List ByteArray) (n c : Nat) (w : World) (h : Rdr w B g p) (p0 : 0 ≤ p) (p1 : p ≤ 900000) (hn : n = ls.length) (hn0 : 1 ≤ n) (hn1 : n ≤ 100) (hb : b < w.heap.size) (hg : b ≠ g)
    (hc : ∀ i, i < ls.length → w.cell? ⟨b, i, none⟩ = some (.string (tix ls i))) :
    Calls Try.prog 60 #[.pointer (some ⟨g, 0, none⟩), .slice (some ⟨b, 0, none⟩) n c] w (StrPost (· ∈ ls) B g p 1 w) := by
  subst hn
  have HC := Lib.hid hc
  have HG := Lib.hid hg
  clear hc hg
  go_enter Try.func60, Try.ntmps60
  go_wp2_with (go_at_call 61; refine (pick_any B g p _ _ h p0 (by omega) (by omega) (by omega)).mono ?_; rintro e w2 ⟨x, x0, x1, rfl, hr2, hg2⟩; obtain ⟨x, rfl⟩ := Int.eq_ofNat_of_zero_le x0; have hx : x < ls.length := (by omega); have hcl : w2.cell? ⟨b, x, none⟩ = some (.string (tix ls x)) := (World.cell?_of_block (hg2.block b hb (by simp; exact HG.out))).trans (HC.out x hx))
  go_ret
  exact ⟨_, _, tix_mem hx, by omega, by omega, rfl, hr2, hg2⟩

/-- The cells of a literal list of texts. -/
theorem lits_cell (w : World) (ls : List ByteArray) (cs : Array Value) (hcs : cs.toList = ls.map Value.string) : ∀ i, i < ls.length → (w.alloc (.cells cs 9)).cell? ⟨w.heap.size, i, none⟩ = some (.string (tix ls i)) := by
  intro k hk
  have h := cell_of_row (w.alloc (.cells cs 9)) w.heap.size k cs 9 (0, 0) (heap_alloc_new w _)
  rw [h, ← Array.getElem?_toList, hcs, List.getElem?_map, List.getElem?_eq_getElem hk]
  simp [tix, List.getD_eq_getElem?_getD, List.getElem?_eq_getElem hk]

def ls3 : List ByteArray := [⟨#[77]⟩, ⟨#[120]⟩, ⟨#[105]⟩]
def ls5 : List ByteArray := [⟨#[]⟩, ⟨#[73, 88]⟩, ⟨#[73, 73, 73, 73, 73, 73, 73, 73, 73, 73]⟩, ⟨#[88, 88, 88, 88, 88, 88, 88, 88, 88, 88]⟩, ⟨#[88, 77]⟩]
theorem ls3_size : ∀ s ∈ ls3, s.size ≤ 10 := by decide
theorem ls5_size : ∀ s ∈ ls5, s.size ≤ 10 := by decide

theorem grown_alloc_trans {w w1 w2 : World} {g : Nat} (o : Obj) (h : w.grownBy w1 (some g)) (h2 : (w1.alloc o).grownBy w2 (some g)) : w.grownBy w2 (some g) := (h.trans (World.grownBy_alloc w1 o (some g))).trans h2

set_option maxHeartbeats 1000000 in
theorem l92Notches_any (B g : Nat) (p : Int) (w : World) (h : Rdr w B g p) (p0 : 0 ≤ p) (p1 : p ≤ 800000) :
    Calls Try.prog 57 #[.pointer (some ⟨g, 0, none⟩)] w (StrPost (·.size ≤ 46) B g p 4 w) := by
  have hgl := h.lt.2
  go_enter Try.func57, Try.ntmps57
  go_wp2_with fail
  refine (pick_any B g p 200 _ h p0 (by omega) (by omega) (by omega)).mono ?_
  rintro e w1 ⟨x, x0, x1, rfl, hr1, hg1⟩
  go_wp2_with fail
  refine (pick_any B g (p + 1) 40 _ hr1 (by omega) (by omega) (by omega) (by omega)).mono ?_
  rintro e w2 ⟨y, y0, y1, rfl, hr2, hg2⟩
  have m0 : 0 ≤ x * (1 + y) := Int.mul_nonneg x0 (by omega)
  have m1 : x * (1 + y) ≤ 8000 := by
    have : x * (1 + y) ≤ 200 * 40 := Int.mul_le_mul (by omega) (by omega) (by omega) (by omega)
    omega
  have hsz := noR_size (x * (1 + y))
  go_wp2_with (go_at_call 51; refine (sNotchesOf _ _).mono ?_; rintro e w' ⟨rfl, rfl⟩)
  refine (pick_any B g (p + 1 + 1) 30 _ hr2 (by omega) (by omega) (by omega) (by omega)).mono ?_
  rintro e w3 ⟨z, z0, z1, rfl, hr3, hg3⟩
  have o3 := (hg1.trans hg2).trans hg3
  have hgl3 := hr3.lt.2
  by_cases c0 : z = 0
  · subst c0
    have L3 := lits_cell w3 ls3 #[.string ⟨#[77]⟩, .string ⟨#[120]⟩, .string ⟨#[105]⟩] rfl
    have OF := of_any B g w3.heap.size (p + 1 + 1 + 1) ls3 3 3 _ (hr3.alloc _) (by omega) (by omega) rfl (by omega) (by omega) (by simp) (by omega) L3
    have HL := Lib.hid L3
    clear L3
    go_wp2_with (go_at_call 60; refine OF.mono ?_; rintro e w4 ⟨r, p', hr, q1, q2, rfl, hr4, hg4⟩; have hrs := ls3_size r hr)
    go_ret
    exact ⟨_, _, by show (noR (x * (1 + y)) ++ r).size ≤ 46; rw [ByteArray.size_append]; omega, by omega, by omega, rfl, hr4, grown_alloc_trans _ o3 hg4⟩
  · by_cases c1 : z = 1
    · subst c1
      have L3 := lits_cell w3 ls5 #[.string ⟨#[]⟩, .string ⟨#[73, 88]⟩, .string ⟨#[73, 73, 73, 73, 73, 73, 73, 73, 73, 73]⟩, .string ⟨#[88, 88, 88, 88, 88, 88, 88, 88, 88, 88]⟩, .string ⟨#[88, 77]⟩] rfl
      have OF := of_any B g w3.heap.size (p + 1 + 1 + 1) ls5 5 5 _ (hr3.alloc _) (by omega) (by omega) rfl (by omega) (by omega) (by simp) (by omega) L3
      have HL := Lib.hid L3
      clear L3
      go_wp2_with (go_at_call 60; refine OF.mono ?_; rintro e w4 ⟨r, p', hr, q1, q2, rfl, hr4, hg4⟩; have hrs := ls5_size r hr)
      go_ret
      exact ⟨_, _, by show r.size ≤ 46; omega, by omega, by omega, rfl, hr4, grown_alloc_trans _ o3 hg4⟩
    · have c0' : (z == 0) = false := beq_eq_false_iff_ne.2 c0
      have c1' : (z == 1) = false := beq_eq_false_iff_ne.2 c1
      clear c0 c1
      go_wp2_with fail
      go_ret
      exact ⟨_, _, by show (noR (x * (1 + y))).size ≤ 46; omega, by omega, by omega, rfl, hr3, o3⟩

end Go.Proofs.Ytahlflennmdckaa
